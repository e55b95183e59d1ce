/-
  The law FnExactRepeatDay returns true for every input, and leaves its arguments as they were. No condition.
-/
import Derived.Test.YtbeeonpefmdkeaaTankStart
import Derived.Test.YtbeeonpefmdkeaaLiftTank
set_option linter.unusedVariables false
set_option linter.unusedSimpArgs false
namespace Go.Proofs.Ytbeeonpefmdkeaa
open Go.ChangeShapes Go.WideShapes Go.ChangeAt Go.RowKit Go.Joins

set_option maxHeartbeats 2000000 in
theorem law_RepeatDay (lv a b : Int) (p q : Option Addr) (n m c d : Nat) (ins outs : List Int) (days : Int) (w : World) (h : IntsAt w p n ins) (h' : IntsAt w q m outs) :
    Calls Try.prog 9 #[.agg #[.int .i64 lv, .int .i64 a, .int .i64 b], .slice p n c, .slice q m d, .int .i64 days] w fun e w' => e = .returned (.bool true) ∧ Below w.heap.size w w' := by
  have H_ins := hid h
  have H_outs := hid h'
  have hl := h.1
  have hl' := h'.1
  clear h h'
  by_cases hn : 1048576 < n
  · clear hl hl'
    go_enter Try.func9, Try.ntmps9
    go_wp2
    go_ret
    exact ⟨rfl, by go_grown⟩
  by_cases hm : 1048576 < m
  · clear hl hl'
    go_enter Try.func9, Try.ntmps9
    go_wp2
    go_ret
    exact ⟨rfl, by go_grown⟩
  by_cases hd : (goodDay lv a b ins outs && inR days 0 20) = true
  · rw [Bool.and_eq_true] at hd
    obtain ⟨hd, hi⟩ := hd
    have hi2 := inR_iff.1 hi
    obtain ⟨dn, rfl⟩ : ∃ dn : Nat, days = dn := ⟨days.toNat, by omega⟩
    have hdn : dn ≤ 20 := by omega
    clear hi hi2
    obtain ⟨_, _, hlen, _, _⟩ := goodDay_iff.1 hd
    obtain rfl : m = n := by omega
    have HD := hid hd
    clear hd hl hl' hlen
    go_enter Try.func9, Try.ntmps9
    go_wp2_with fail
    refine (l_toTank _ _ _ _).mono ?_
    rintro e w1 ⟨rfl, hb⟩
    have HB_1 := hid (bstep (by go_grown) hb : Below w.heap.size w w1)
    have B_1 := HB_1
    have S_1 := HB_1.out.size
    have T_1_1 : Hid (w1.heap[w.heap.size]? = some (.cells #[.int .i64 lv, .int .i64 a, .int .i64 b] 23 (0, 0))) := hid (by rw [hb.block _ (by simp <;> omega)]; exact heap_alloc_new _ _)
    have m_1_1_0 : w1.cell? ⟨w.heap.size, 0, none⟩ = some (.int .i64 lv) := by rw [cell_of_row w1 _ _ _ _ (0, 0) T_1_1.out]; rfl
    have m_1_1_1 : w1.cell? ⟨w.heap.size, 1, none⟩ = some (.int .i64 a) := by rw [cell_of_row w1 _ _ _ _ (0, 0) T_1_1.out]; rfl
    have m_1_1_2 : w1.cell? ⟨w.heap.size, 2, none⟩ = some (.int .i64 b) := by rw [cell_of_row w1 _ _ _ _ (0, 0) T_1_1.out]; rfl
    have z_1_1 : w.heap.size < w1.heap.size := (Array.getElem?_eq_some_iff.1 T_1_1.out).1
    clear hb
    go_wp2_with fail
    refine (l_toIntS _ _ _ ins _ ((H_ins.out.below B_1.out).below (by go_grown)) (by omega)).mono ?_
    rintro e w2 ⟨a1, c1, rfl, o1, hb⟩
    have HB_2 := hid (bstep (by go_grown) hb : Below w1.heap.size w1 w2)
    have B_2 := hid (bstep B_1.out HB_2.out)
    have S_2 := HB_2.out.size
    have T_2_1 := hid ((HB_2.out.block w.heap.size (Array.getElem?_eq_some_iff.1 T_1_1.out).1).trans T_1_1.out)
    clear m_1_1_0 m_1_1_1 m_1_1_2 z_1_1
    have m_2_1_0 : w2.cell? ⟨w.heap.size, 0, none⟩ = some (.int .i64 lv) := by rw [cell_of_row w2 _ _ _ _ (0, 0) T_2_1.out]; rfl
    have m_2_1_1 : w2.cell? ⟨w.heap.size, 1, none⟩ = some (.int .i64 a) := by rw [cell_of_row w2 _ _ _ _ (0, 0) T_2_1.out]; rfl
    have m_2_1_2 : w2.cell? ⟨w.heap.size, 2, none⟩ = some (.int .i64 b) := by rw [cell_of_row w2 _ _ _ _ (0, 0) T_2_1.out]; rfl
    have z_2_1 : w.heap.size < w2.heap.size := (Array.getElem?_eq_some_iff.1 T_2_1.out).1
    clear hb
    have O_s1 := hid o1
    clear o1
    go_wp2_with fail
    refine (l_toIntS _ _ _ outs _ ((H_outs.out.below B_2.out).below (by go_grown)) (by omega)).mono ?_
    rintro e w3 ⟨a2, c2, rfl, o2, hb⟩
    have HB_3 := hid (bstep (by go_grown) hb : Below w2.heap.size w2 w3)
    have B_3 := hid (bstep B_2.out HB_3.out)
    have S_3 := HB_3.out.size
    have T_3_1 := hid ((HB_3.out.block w.heap.size (Array.getElem?_eq_some_iff.1 T_2_1.out).1).trans T_2_1.out)
    clear m_2_1_0 m_2_1_1 m_2_1_2 z_2_1
    have m_3_1_0 : w3.cell? ⟨w.heap.size, 0, none⟩ = some (.int .i64 lv) := by rw [cell_of_row w3 _ _ _ _ (0, 0) T_3_1.out]; rfl
    have m_3_1_1 : w3.cell? ⟨w.heap.size, 1, none⟩ = some (.int .i64 a) := by rw [cell_of_row w3 _ _ _ _ (0, 0) T_3_1.out]; rfl
    have m_3_1_2 : w3.cell? ⟨w.heap.size, 2, none⟩ = some (.int .i64 b) := by rw [cell_of_row w3 _ _ _ _ (0, 0) T_3_1.out]; rfl
    have z_3_1 : w.heap.size < w3.heap.size := (Array.getElem?_eq_some_iff.1 T_3_1.out).1
    clear hb
    have O_s2 := hid o2
    clear o2
    have O_s1_3 := hid (O_s1.out.below HB_3.out)
    go_wp2_with fail
    refine (s_RepeatDay_yes dn hdn _ _ _ _ _ _ _ _ ins outs _ (O_s1_3.out.at.below (by go_grown)) (O_s2.out.at.below (by go_grown)) HD.out).mono ?_
    rintro e w4 ⟨rfl, hb⟩
    have HB_4 := hid (bstep (by go_grown) hb : Below w3.heap.size w3 w4)
    have B_4 := hid (bstep B_3.out HB_4.out)
    have S_4 := HB_4.out.size
    have T_4_1 := hid ((HB_4.out.block w.heap.size (Array.getElem?_eq_some_iff.1 T_3_1.out).1).trans T_3_1.out)
    clear m_3_1_0 m_3_1_1 m_3_1_2 z_3_1
    have m_4_1_0 : w4.cell? ⟨w.heap.size, 0, none⟩ = some (.int .i64 lv) := by rw [cell_of_row w4 _ _ _ _ (0, 0) T_4_1.out]; rfl
    have m_4_1_1 : w4.cell? ⟨w.heap.size, 1, none⟩ = some (.int .i64 a) := by rw [cell_of_row w4 _ _ _ _ (0, 0) T_4_1.out]; rfl
    have m_4_1_2 : w4.cell? ⟨w.heap.size, 2, none⟩ = some (.int .i64 b) := by rw [cell_of_row w4 _ _ _ _ (0, 0) T_4_1.out]; rfl
    have z_4_1 : w.heap.size < w4.heap.size := (Array.getElem?_eq_some_iff.1 T_4_1.out).1
    clear hb
    go_wp2_with fail
    refine (l_toIntS _ _ _ ins _ ((H_ins.out.below B_4.out).below (by go_grown)) (by omega)).mono ?_
    rintro e w5 ⟨a3, c3, rfl, o3, hb⟩
    have HB_5 := hid (bstep (by go_grown) hb : Below w4.heap.size w4 w5)
    have B_5 := hid (bstep B_4.out HB_5.out)
    have S_5 := HB_5.out.size
    have T_5_1 := hid ((HB_5.out.block w.heap.size (Array.getElem?_eq_some_iff.1 T_4_1.out).1).trans T_4_1.out)
    have T_5_2 : Hid (w5.heap[w4.heap.size]? = some (.cells #[.int .i64 (repLv a b lv ins outs dn), .int .i64 a, .int .i64 b] 25 (0, 0))) := hid (by rw [hb.block _ (by simp <;> omega)]; exact heap_alloc_new _ _)
    clear m_4_1_0 m_4_1_1 m_4_1_2 z_4_1
    have m_5_1_0 : w5.cell? ⟨w.heap.size, 0, none⟩ = some (.int .i64 lv) := by rw [cell_of_row w5 _ _ _ _ (0, 0) T_5_1.out]; rfl
    have m_5_1_1 : w5.cell? ⟨w.heap.size, 1, none⟩ = some (.int .i64 a) := by rw [cell_of_row w5 _ _ _ _ (0, 0) T_5_1.out]; rfl
    have m_5_1_2 : w5.cell? ⟨w.heap.size, 2, none⟩ = some (.int .i64 b) := by rw [cell_of_row w5 _ _ _ _ (0, 0) T_5_1.out]; rfl
    have z_5_1 : w.heap.size < w5.heap.size := (Array.getElem?_eq_some_iff.1 T_5_1.out).1
    have m_5_2_0 : w5.cell? ⟨w4.heap.size, 0, none⟩ = some (.int .i64 (repLv a b lv ins outs dn)) := by rw [cell_of_row w5 _ _ _ _ (0, 0) T_5_2.out]; rfl
    have m_5_2_1 : w5.cell? ⟨w4.heap.size, 1, none⟩ = some (.int .i64 a) := by rw [cell_of_row w5 _ _ _ _ (0, 0) T_5_2.out]; rfl
    have m_5_2_2 : w5.cell? ⟨w4.heap.size, 2, none⟩ = some (.int .i64 b) := by rw [cell_of_row w5 _ _ _ _ (0, 0) T_5_2.out]; rfl
    have z_5_2 : w4.heap.size < w5.heap.size := (Array.getElem?_eq_some_iff.1 T_5_2.out).1
    clear hb
    have O_x1 := hid o3
    clear o3
    go_wp2_with fail
    refine (l_toIntS _ _ _ outs _ ((H_outs.out.below B_5.out).below (by go_grown)) (by omega)).mono ?_
    rintro e w6 ⟨a4, c4, rfl, o4, hb⟩
    have HB_6 := hid (bstep (by go_grown) hb : Below w5.heap.size w5 w6)
    have B_6 := hid (bstep B_5.out HB_6.out)
    have S_6 := HB_6.out.size
    have T_6_1 := hid ((HB_6.out.block w.heap.size (Array.getElem?_eq_some_iff.1 T_5_1.out).1).trans T_5_1.out)
    have T_6_2 := hid ((HB_6.out.block w4.heap.size (Array.getElem?_eq_some_iff.1 T_5_2.out).1).trans T_5_2.out)
    clear m_5_1_0 m_5_1_1 m_5_1_2 z_5_1 m_5_2_0 m_5_2_1 m_5_2_2 z_5_2
    have m_6_1_0 : w6.cell? ⟨w.heap.size, 0, none⟩ = some (.int .i64 lv) := by rw [cell_of_row w6 _ _ _ _ (0, 0) T_6_1.out]; rfl
    have m_6_1_1 : w6.cell? ⟨w.heap.size, 1, none⟩ = some (.int .i64 a) := by rw [cell_of_row w6 _ _ _ _ (0, 0) T_6_1.out]; rfl
    have m_6_1_2 : w6.cell? ⟨w.heap.size, 2, none⟩ = some (.int .i64 b) := by rw [cell_of_row w6 _ _ _ _ (0, 0) T_6_1.out]; rfl
    have z_6_1 : w.heap.size < w6.heap.size := (Array.getElem?_eq_some_iff.1 T_6_1.out).1
    have m_6_2_0 : w6.cell? ⟨w4.heap.size, 0, none⟩ = some (.int .i64 (repLv a b lv ins outs dn)) := by rw [cell_of_row w6 _ _ _ _ (0, 0) T_6_2.out]; rfl
    have m_6_2_1 : w6.cell? ⟨w4.heap.size, 1, none⟩ = some (.int .i64 a) := by rw [cell_of_row w6 _ _ _ _ (0, 0) T_6_2.out]; rfl
    have m_6_2_2 : w6.cell? ⟨w4.heap.size, 2, none⟩ = some (.int .i64 b) := by rw [cell_of_row w6 _ _ _ _ (0, 0) T_6_2.out]; rfl
    have z_6_2 : w4.heap.size < w6.heap.size := (Array.getElem?_eq_some_iff.1 T_6_2.out).1
    clear hb
    have O_x2 := hid o4
    clear o4
    go_wp2_with fail
    refine (l_toTank _ _ _ _).mono ?_
    rintro e w7 ⟨rfl, hb⟩
    have HB_7 := hid (bstep (by go_grown) hb : Below w6.heap.size w6 w7)
    have B_7 := hid (bstep B_6.out HB_7.out)
    have S_7 := HB_7.out.size
    have T_7_1 := hid ((HB_7.out.block w.heap.size (Array.getElem?_eq_some_iff.1 T_6_1.out).1).trans T_6_1.out)
    have T_7_2 := hid ((HB_7.out.block w4.heap.size (Array.getElem?_eq_some_iff.1 T_6_2.out).1).trans T_6_2.out)
    clear m_6_1_0 m_6_1_1 m_6_1_2 z_6_1 m_6_2_0 m_6_2_1 m_6_2_2 z_6_2
    have m_7_1_0 : w7.cell? ⟨w.heap.size, 0, none⟩ = some (.int .i64 lv) := by rw [cell_of_row w7 _ _ _ _ (0, 0) T_7_1.out]; rfl
    have m_7_1_1 : w7.cell? ⟨w.heap.size, 1, none⟩ = some (.int .i64 a) := by rw [cell_of_row w7 _ _ _ _ (0, 0) T_7_1.out]; rfl
    have m_7_1_2 : w7.cell? ⟨w.heap.size, 2, none⟩ = some (.int .i64 b) := by rw [cell_of_row w7 _ _ _ _ (0, 0) T_7_1.out]; rfl
    have z_7_1 : w.heap.size < w7.heap.size := (Array.getElem?_eq_some_iff.1 T_7_1.out).1
    have m_7_2_0 : w7.cell? ⟨w4.heap.size, 0, none⟩ = some (.int .i64 (repLv a b lv ins outs dn)) := by rw [cell_of_row w7 _ _ _ _ (0, 0) T_7_2.out]; rfl
    have m_7_2_1 : w7.cell? ⟨w4.heap.size, 1, none⟩ = some (.int .i64 a) := by rw [cell_of_row w7 _ _ _ _ (0, 0) T_7_2.out]; rfl
    have m_7_2_2 : w7.cell? ⟨w4.heap.size, 2, none⟩ = some (.int .i64 b) := by rw [cell_of_row w7 _ _ _ _ (0, 0) T_7_2.out]; rfl
    have z_7_2 : w4.heap.size < w7.heap.size := (Array.getElem?_eq_some_iff.1 T_7_2.out).1
    clear hb
    have O_x1_7 := hid ((O_x1.out.below HB_6.out).below HB_7.out)
    have O_x2_7 := hid (O_x2.out.below HB_7.out)
    go_wp2_with fail
    refine (i_RepeatDay_yes dn hdn _ _ _ _ _ _ _ _ ins outs _ (O_x1_7.out.at.below (by go_grown)) (O_x2_7.out.at.below (by go_grown)) HD.out).mono ?_
    rintro e w8 ⟨rfl, hb⟩
    have HB_8 := hid (bstep (by go_grown) hb : Below w7.heap.size w7 w8)
    have B_8 := hid (bstep B_7.out HB_8.out)
    have S_8 := HB_8.out.size
    have T_8_1 := hid ((HB_8.out.block w.heap.size (Array.getElem?_eq_some_iff.1 T_7_1.out).1).trans T_7_1.out)
    have T_8_2 := hid ((HB_8.out.block w4.heap.size (Array.getElem?_eq_some_iff.1 T_7_2.out).1).trans T_7_2.out)
    clear m_7_1_0 m_7_1_1 m_7_1_2 z_7_1 m_7_2_0 m_7_2_1 m_7_2_2 z_7_2
    have m_8_1_0 : w8.cell? ⟨w.heap.size, 0, none⟩ = some (.int .i64 lv) := by rw [cell_of_row w8 _ _ _ _ (0, 0) T_8_1.out]; rfl
    have m_8_1_1 : w8.cell? ⟨w.heap.size, 1, none⟩ = some (.int .i64 a) := by rw [cell_of_row w8 _ _ _ _ (0, 0) T_8_1.out]; rfl
    have m_8_1_2 : w8.cell? ⟨w.heap.size, 2, none⟩ = some (.int .i64 b) := by rw [cell_of_row w8 _ _ _ _ (0, 0) T_8_1.out]; rfl
    have z_8_1 : w.heap.size < w8.heap.size := (Array.getElem?_eq_some_iff.1 T_8_1.out).1
    have m_8_2_0 : w8.cell? ⟨w4.heap.size, 0, none⟩ = some (.int .i64 (repLv a b lv ins outs dn)) := by rw [cell_of_row w8 _ _ _ _ (0, 0) T_8_2.out]; rfl
    have m_8_2_1 : w8.cell? ⟨w4.heap.size, 1, none⟩ = some (.int .i64 a) := by rw [cell_of_row w8 _ _ _ _ (0, 0) T_8_2.out]; rfl
    have m_8_2_2 : w8.cell? ⟨w4.heap.size, 2, none⟩ = some (.int .i64 b) := by rw [cell_of_row w8 _ _ _ _ (0, 0) T_8_2.out]; rfl
    have z_8_2 : w4.heap.size < w8.heap.size := (Array.getElem?_eq_some_iff.1 T_8_2.out).1
    clear hb
    go_wp2_with fail
    refine (l_eqTank _ _ _ _).mono ?_
    rintro e w9 ⟨rfl, hb⟩
    have HB_9 := hid (bstep (by go_grown) hb : Below w8.heap.size w8 w9)
    have B_9 := hid (bstep B_8.out HB_9.out)
    have S_9 := HB_9.out.size
    have T_9_1 := hid ((HB_9.out.block w.heap.size (Array.getElem?_eq_some_iff.1 T_8_1.out).1).trans T_8_1.out)
    have T_9_2 := hid ((HB_9.out.block w4.heap.size (Array.getElem?_eq_some_iff.1 T_8_2.out).1).trans T_8_2.out)
    have T_9_3 : Hid (w9.heap[w8.heap.size]? = some (.cells #[.int .i64 (repLv a b lv ins outs dn), .int .i64 a, .int .i64 b] 25 (0, 0))) := hid (by rw [hb.block _ (by simp <;> omega)]; exact heap_alloc_new _ _)
    clear m_8_1_0 m_8_1_1 m_8_1_2 z_8_1 m_8_2_0 m_8_2_1 m_8_2_2 z_8_2
    have m_9_1_0 : w9.cell? ⟨w.heap.size, 0, none⟩ = some (.int .i64 lv) := by rw [cell_of_row w9 _ _ _ _ (0, 0) T_9_1.out]; rfl
    have m_9_1_1 : w9.cell? ⟨w.heap.size, 1, none⟩ = some (.int .i64 a) := by rw [cell_of_row w9 _ _ _ _ (0, 0) T_9_1.out]; rfl
    have m_9_1_2 : w9.cell? ⟨w.heap.size, 2, none⟩ = some (.int .i64 b) := by rw [cell_of_row w9 _ _ _ _ (0, 0) T_9_1.out]; rfl
    have z_9_1 : w.heap.size < w9.heap.size := (Array.getElem?_eq_some_iff.1 T_9_1.out).1
    have m_9_2_0 : w9.cell? ⟨w4.heap.size, 0, none⟩ = some (.int .i64 (repLv a b lv ins outs dn)) := by rw [cell_of_row w9 _ _ _ _ (0, 0) T_9_2.out]; rfl
    have m_9_2_1 : w9.cell? ⟨w4.heap.size, 1, none⟩ = some (.int .i64 a) := by rw [cell_of_row w9 _ _ _ _ (0, 0) T_9_2.out]; rfl
    have m_9_2_2 : w9.cell? ⟨w4.heap.size, 2, none⟩ = some (.int .i64 b) := by rw [cell_of_row w9 _ _ _ _ (0, 0) T_9_2.out]; rfl
    have z_9_2 : w4.heap.size < w9.heap.size := (Array.getElem?_eq_some_iff.1 T_9_2.out).1
    have m_9_3_0 : w9.cell? ⟨w8.heap.size, 0, none⟩ = some (.int .i64 (repLv a b lv ins outs dn)) := by rw [cell_of_row w9 _ _ _ _ (0, 0) T_9_3.out]; rfl
    have m_9_3_1 : w9.cell? ⟨w8.heap.size, 1, none⟩ = some (.int .i64 a) := by rw [cell_of_row w9 _ _ _ _ (0, 0) T_9_3.out]; rfl
    have m_9_3_2 : w9.cell? ⟨w8.heap.size, 2, none⟩ = some (.int .i64 b) := by rw [cell_of_row w9 _ _ _ _ (0, 0) T_9_3.out]; rfl
    have z_9_3 : w8.heap.size < w9.heap.size := (Array.getElem?_eq_some_iff.1 T_9_3.out).1
    clear hb
    go_wp2_with fail
    refine (l_toIntS _ _ _ ins _ ((H_ins.out.below B_9.out).below (by go_grown)) (by omega)).mono ?_
    rintro e w10 ⟨a5, c5, rfl, o5, hb⟩
    have HB_10 := hid (bstep (by go_grown) hb : Below w9.heap.size w9 w10)
    have B_10 := hid (bstep B_9.out HB_10.out)
    have S_10 := HB_10.out.size
    have T_10_1 := hid ((HB_10.out.block w.heap.size (Array.getElem?_eq_some_iff.1 T_9_1.out).1).trans T_9_1.out)
    have T_10_2 := hid ((HB_10.out.block w4.heap.size (Array.getElem?_eq_some_iff.1 T_9_2.out).1).trans T_9_2.out)
    have T_10_3 := hid ((HB_10.out.block w8.heap.size (Array.getElem?_eq_some_iff.1 T_9_3.out).1).trans T_9_3.out)
    clear m_9_1_0 m_9_1_1 m_9_1_2 z_9_1 m_9_2_0 m_9_2_1 m_9_2_2 z_9_2 m_9_3_0 m_9_3_1 m_9_3_2 z_9_3
    have m_10_1_0 : w10.cell? ⟨w.heap.size, 0, none⟩ = some (.int .i64 lv) := by rw [cell_of_row w10 _ _ _ _ (0, 0) T_10_1.out]; rfl
    have m_10_1_1 : w10.cell? ⟨w.heap.size, 1, none⟩ = some (.int .i64 a) := by rw [cell_of_row w10 _ _ _ _ (0, 0) T_10_1.out]; rfl
    have m_10_1_2 : w10.cell? ⟨w.heap.size, 2, none⟩ = some (.int .i64 b) := by rw [cell_of_row w10 _ _ _ _ (0, 0) T_10_1.out]; rfl
    have z_10_1 : w.heap.size < w10.heap.size := (Array.getElem?_eq_some_iff.1 T_10_1.out).1
    have m_10_2_0 : w10.cell? ⟨w4.heap.size, 0, none⟩ = some (.int .i64 (repLv a b lv ins outs dn)) := by rw [cell_of_row w10 _ _ _ _ (0, 0) T_10_2.out]; rfl
    have m_10_2_1 : w10.cell? ⟨w4.heap.size, 1, none⟩ = some (.int .i64 a) := by rw [cell_of_row w10 _ _ _ _ (0, 0) T_10_2.out]; rfl
    have m_10_2_2 : w10.cell? ⟨w4.heap.size, 2, none⟩ = some (.int .i64 b) := by rw [cell_of_row w10 _ _ _ _ (0, 0) T_10_2.out]; rfl
    have z_10_2 : w4.heap.size < w10.heap.size := (Array.getElem?_eq_some_iff.1 T_10_2.out).1
    have m_10_3_0 : w10.cell? ⟨w8.heap.size, 0, none⟩ = some (.int .i64 (repLv a b lv ins outs dn)) := by rw [cell_of_row w10 _ _ _ _ (0, 0) T_10_3.out]; rfl
    have m_10_3_1 : w10.cell? ⟨w8.heap.size, 1, none⟩ = some (.int .i64 a) := by rw [cell_of_row w10 _ _ _ _ (0, 0) T_10_3.out]; rfl
    have m_10_3_2 : w10.cell? ⟨w8.heap.size, 2, none⟩ = some (.int .i64 b) := by rw [cell_of_row w10 _ _ _ _ (0, 0) T_10_3.out]; rfl
    have z_10_3 : w8.heap.size < w10.heap.size := (Array.getElem?_eq_some_iff.1 T_10_3.out).1
    clear hb
    have O_y1 := hid o5
    clear o5
    have O_x1_10 := hid (((O_x1_7.out.below HB_8.out).below HB_9.out).below HB_10.out)
    go_wp2_with fail
    refine (l_eqIntS _ _ _ _ _ _ ins ins _ (O_x1_10.out.at.below (by go_grown)) (O_y1.out.at.below (by go_grown)) (by omega) (by omega)).mono ?_
    rintro e w11 ⟨rfl, hb⟩
    have HB_11 := hid (bstep (by go_grown) hb : Below w10.heap.size w10 w11)
    have B_11 := hid (bstep B_10.out HB_11.out)
    have S_11 := HB_11.out.size
    have T_11_1 := hid ((HB_11.out.block w.heap.size (Array.getElem?_eq_some_iff.1 T_10_1.out).1).trans T_10_1.out)
    have T_11_2 := hid ((HB_11.out.block w4.heap.size (Array.getElem?_eq_some_iff.1 T_10_2.out).1).trans T_10_2.out)
    have T_11_3 := hid ((HB_11.out.block w8.heap.size (Array.getElem?_eq_some_iff.1 T_10_3.out).1).trans T_10_3.out)
    clear m_10_1_0 m_10_1_1 m_10_1_2 z_10_1 m_10_2_0 m_10_2_1 m_10_2_2 z_10_2 m_10_3_0 m_10_3_1 m_10_3_2 z_10_3
    have m_11_1_0 : w11.cell? ⟨w.heap.size, 0, none⟩ = some (.int .i64 lv) := by rw [cell_of_row w11 _ _ _ _ (0, 0) T_11_1.out]; rfl
    have m_11_1_1 : w11.cell? ⟨w.heap.size, 1, none⟩ = some (.int .i64 a) := by rw [cell_of_row w11 _ _ _ _ (0, 0) T_11_1.out]; rfl
    have m_11_1_2 : w11.cell? ⟨w.heap.size, 2, none⟩ = some (.int .i64 b) := by rw [cell_of_row w11 _ _ _ _ (0, 0) T_11_1.out]; rfl
    have z_11_1 : w.heap.size < w11.heap.size := (Array.getElem?_eq_some_iff.1 T_11_1.out).1
    have m_11_2_0 : w11.cell? ⟨w4.heap.size, 0, none⟩ = some (.int .i64 (repLv a b lv ins outs dn)) := by rw [cell_of_row w11 _ _ _ _ (0, 0) T_11_2.out]; rfl
    have m_11_2_1 : w11.cell? ⟨w4.heap.size, 1, none⟩ = some (.int .i64 a) := by rw [cell_of_row w11 _ _ _ _ (0, 0) T_11_2.out]; rfl
    have m_11_2_2 : w11.cell? ⟨w4.heap.size, 2, none⟩ = some (.int .i64 b) := by rw [cell_of_row w11 _ _ _ _ (0, 0) T_11_2.out]; rfl
    have z_11_2 : w4.heap.size < w11.heap.size := (Array.getElem?_eq_some_iff.1 T_11_2.out).1
    have m_11_3_0 : w11.cell? ⟨w8.heap.size, 0, none⟩ = some (.int .i64 (repLv a b lv ins outs dn)) := by rw [cell_of_row w11 _ _ _ _ (0, 0) T_11_3.out]; rfl
    have m_11_3_1 : w11.cell? ⟨w8.heap.size, 1, none⟩ = some (.int .i64 a) := by rw [cell_of_row w11 _ _ _ _ (0, 0) T_11_3.out]; rfl
    have m_11_3_2 : w11.cell? ⟨w8.heap.size, 2, none⟩ = some (.int .i64 b) := by rw [cell_of_row w11 _ _ _ _ (0, 0) T_11_3.out]; rfl
    have z_11_3 : w8.heap.size < w11.heap.size := (Array.getElem?_eq_some_iff.1 T_11_3.out).1
    clear hb
    go_wp2_with fail
    refine (l_toIntS _ _ _ outs _ ((H_outs.out.below B_11.out).below (by go_grown)) (by omega)).mono ?_
    rintro e w12 ⟨a6, c6, rfl, o6, hb⟩
    have HB_12 := hid (bstep (by go_grown) hb : Below w11.heap.size w11 w12)
    have B_12 := hid (bstep B_11.out HB_12.out)
    have S_12 := HB_12.out.size
    have T_12_1 := hid ((HB_12.out.block w.heap.size (Array.getElem?_eq_some_iff.1 T_11_1.out).1).trans T_11_1.out)
    have T_12_2 := hid ((HB_12.out.block w4.heap.size (Array.getElem?_eq_some_iff.1 T_11_2.out).1).trans T_11_2.out)
    have T_12_3 := hid ((HB_12.out.block w8.heap.size (Array.getElem?_eq_some_iff.1 T_11_3.out).1).trans T_11_3.out)
    clear m_11_1_0 m_11_1_1 m_11_1_2 z_11_1 m_11_2_0 m_11_2_1 m_11_2_2 z_11_2 m_11_3_0 m_11_3_1 m_11_3_2 z_11_3
    have m_12_1_0 : w12.cell? ⟨w.heap.size, 0, none⟩ = some (.int .i64 lv) := by rw [cell_of_row w12 _ _ _ _ (0, 0) T_12_1.out]; rfl
    have m_12_1_1 : w12.cell? ⟨w.heap.size, 1, none⟩ = some (.int .i64 a) := by rw [cell_of_row w12 _ _ _ _ (0, 0) T_12_1.out]; rfl
    have m_12_1_2 : w12.cell? ⟨w.heap.size, 2, none⟩ = some (.int .i64 b) := by rw [cell_of_row w12 _ _ _ _ (0, 0) T_12_1.out]; rfl
    have z_12_1 : w.heap.size < w12.heap.size := (Array.getElem?_eq_some_iff.1 T_12_1.out).1
    have m_12_2_0 : w12.cell? ⟨w4.heap.size, 0, none⟩ = some (.int .i64 (repLv a b lv ins outs dn)) := by rw [cell_of_row w12 _ _ _ _ (0, 0) T_12_2.out]; rfl
    have m_12_2_1 : w12.cell? ⟨w4.heap.size, 1, none⟩ = some (.int .i64 a) := by rw [cell_of_row w12 _ _ _ _ (0, 0) T_12_2.out]; rfl
    have m_12_2_2 : w12.cell? ⟨w4.heap.size, 2, none⟩ = some (.int .i64 b) := by rw [cell_of_row w12 _ _ _ _ (0, 0) T_12_2.out]; rfl
    have z_12_2 : w4.heap.size < w12.heap.size := (Array.getElem?_eq_some_iff.1 T_12_2.out).1
    have m_12_3_0 : w12.cell? ⟨w8.heap.size, 0, none⟩ = some (.int .i64 (repLv a b lv ins outs dn)) := by rw [cell_of_row w12 _ _ _ _ (0, 0) T_12_3.out]; rfl
    have m_12_3_1 : w12.cell? ⟨w8.heap.size, 1, none⟩ = some (.int .i64 a) := by rw [cell_of_row w12 _ _ _ _ (0, 0) T_12_3.out]; rfl
    have m_12_3_2 : w12.cell? ⟨w8.heap.size, 2, none⟩ = some (.int .i64 b) := by rw [cell_of_row w12 _ _ _ _ (0, 0) T_12_3.out]; rfl
    have z_12_3 : w8.heap.size < w12.heap.size := (Array.getElem?_eq_some_iff.1 T_12_3.out).1
    clear hb
    have O_y2 := hid o6
    clear o6
    have O_x2_12 := hid (((((O_x2_7.out.below HB_8.out).below HB_9.out).below HB_10.out).below HB_11.out).below HB_12.out)
    go_wp2_with fail
    refine (l_eqIntS _ _ _ _ _ _ outs outs _ (O_x2_12.out.at.below (by go_grown)) (O_y2.out.at.below (by go_grown)) (by omega) (by omega)).mono ?_
    rintro e w13 ⟨rfl, hb⟩
    have HB_13 := hid (bstep (by go_grown) hb : Below w12.heap.size w12 w13)
    have B_13 := hid (bstep B_12.out HB_13.out)
    have S_13 := HB_13.out.size
    have T_13_1 := hid ((HB_13.out.block w.heap.size (Array.getElem?_eq_some_iff.1 T_12_1.out).1).trans T_12_1.out)
    have T_13_2 := hid ((HB_13.out.block w4.heap.size (Array.getElem?_eq_some_iff.1 T_12_2.out).1).trans T_12_2.out)
    have T_13_3 := hid ((HB_13.out.block w8.heap.size (Array.getElem?_eq_some_iff.1 T_12_3.out).1).trans T_12_3.out)
    clear m_12_1_0 m_12_1_1 m_12_1_2 z_12_1 m_12_2_0 m_12_2_1 m_12_2_2 z_12_2 m_12_3_0 m_12_3_1 m_12_3_2 z_12_3
    have m_13_1_0 : w13.cell? ⟨w.heap.size, 0, none⟩ = some (.int .i64 lv) := by rw [cell_of_row w13 _ _ _ _ (0, 0) T_13_1.out]; rfl
    have m_13_1_1 : w13.cell? ⟨w.heap.size, 1, none⟩ = some (.int .i64 a) := by rw [cell_of_row w13 _ _ _ _ (0, 0) T_13_1.out]; rfl
    have m_13_1_2 : w13.cell? ⟨w.heap.size, 2, none⟩ = some (.int .i64 b) := by rw [cell_of_row w13 _ _ _ _ (0, 0) T_13_1.out]; rfl
    have z_13_1 : w.heap.size < w13.heap.size := (Array.getElem?_eq_some_iff.1 T_13_1.out).1
    have m_13_2_0 : w13.cell? ⟨w4.heap.size, 0, none⟩ = some (.int .i64 (repLv a b lv ins outs dn)) := by rw [cell_of_row w13 _ _ _ _ (0, 0) T_13_2.out]; rfl
    have m_13_2_1 : w13.cell? ⟨w4.heap.size, 1, none⟩ = some (.int .i64 a) := by rw [cell_of_row w13 _ _ _ _ (0, 0) T_13_2.out]; rfl
    have m_13_2_2 : w13.cell? ⟨w4.heap.size, 2, none⟩ = some (.int .i64 b) := by rw [cell_of_row w13 _ _ _ _ (0, 0) T_13_2.out]; rfl
    have z_13_2 : w4.heap.size < w13.heap.size := (Array.getElem?_eq_some_iff.1 T_13_2.out).1
    have m_13_3_0 : w13.cell? ⟨w8.heap.size, 0, none⟩ = some (.int .i64 (repLv a b lv ins outs dn)) := by rw [cell_of_row w13 _ _ _ _ (0, 0) T_13_3.out]; rfl
    have m_13_3_1 : w13.cell? ⟨w8.heap.size, 1, none⟩ = some (.int .i64 a) := by rw [cell_of_row w13 _ _ _ _ (0, 0) T_13_3.out]; rfl
    have m_13_3_2 : w13.cell? ⟨w8.heap.size, 2, none⟩ = some (.int .i64 b) := by rw [cell_of_row w13 _ _ _ _ (0, 0) T_13_3.out]; rfl
    have z_13_3 : w8.heap.size < w13.heap.size := (Array.getElem?_eq_some_iff.1 T_13_3.out).1
    clear hb
    go_wp2
    go_ret
    exact ⟨rfl, B_13.out⟩
  · have HD := hid (show (goodDay lv a b ins outs && inR days 0 20) = false by simpa using hd)
    clear hd hl hl'
    go_enter Try.func9, Try.ntmps9
    go_wp2_with fail
    refine (l_toTank _ _ _ _).mono ?_
    rintro e w1 ⟨rfl, hb⟩
    have HB_1 := hid (bstep (by go_grown) hb : Below w.heap.size w w1)
    have B_1 := HB_1
    have S_1 := HB_1.out.size
    have T_1_1 : Hid (w1.heap[w.heap.size]? = some (.cells #[.int .i64 lv, .int .i64 a, .int .i64 b] 23 (0, 0))) := hid (by rw [hb.block _ (by simp <;> omega)]; exact heap_alloc_new _ _)
    have m_1_1_0 : w1.cell? ⟨w.heap.size, 0, none⟩ = some (.int .i64 lv) := by rw [cell_of_row w1 _ _ _ _ (0, 0) T_1_1.out]; rfl
    have m_1_1_1 : w1.cell? ⟨w.heap.size, 1, none⟩ = some (.int .i64 a) := by rw [cell_of_row w1 _ _ _ _ (0, 0) T_1_1.out]; rfl
    have m_1_1_2 : w1.cell? ⟨w.heap.size, 2, none⟩ = some (.int .i64 b) := by rw [cell_of_row w1 _ _ _ _ (0, 0) T_1_1.out]; rfl
    have z_1_1 : w.heap.size < w1.heap.size := (Array.getElem?_eq_some_iff.1 T_1_1.out).1
    clear hb
    go_wp2_with fail
    refine (l_toIntS _ _ _ ins _ ((H_ins.out.below B_1.out).below (by go_grown)) (by omega)).mono ?_
    rintro e w2 ⟨a1, c1, rfl, o1, hb⟩
    have HB_2 := hid (bstep (by go_grown) hb : Below w1.heap.size w1 w2)
    have B_2 := hid (bstep B_1.out HB_2.out)
    have S_2 := HB_2.out.size
    have T_2_1 := hid ((HB_2.out.block w.heap.size (Array.getElem?_eq_some_iff.1 T_1_1.out).1).trans T_1_1.out)
    clear m_1_1_0 m_1_1_1 m_1_1_2 z_1_1
    have m_2_1_0 : w2.cell? ⟨w.heap.size, 0, none⟩ = some (.int .i64 lv) := by rw [cell_of_row w2 _ _ _ _ (0, 0) T_2_1.out]; rfl
    have m_2_1_1 : w2.cell? ⟨w.heap.size, 1, none⟩ = some (.int .i64 a) := by rw [cell_of_row w2 _ _ _ _ (0, 0) T_2_1.out]; rfl
    have m_2_1_2 : w2.cell? ⟨w.heap.size, 2, none⟩ = some (.int .i64 b) := by rw [cell_of_row w2 _ _ _ _ (0, 0) T_2_1.out]; rfl
    have z_2_1 : w.heap.size < w2.heap.size := (Array.getElem?_eq_some_iff.1 T_2_1.out).1
    clear hb
    have O_s1 := hid o1
    clear o1
    go_wp2_with fail
    refine (l_toIntS _ _ _ outs _ ((H_outs.out.below B_2.out).below (by go_grown)) (by omega)).mono ?_
    rintro e w3 ⟨a2, c2, rfl, o2, hb⟩
    have HB_3 := hid (bstep (by go_grown) hb : Below w2.heap.size w2 w3)
    have B_3 := hid (bstep B_2.out HB_3.out)
    have S_3 := HB_3.out.size
    have T_3_1 := hid ((HB_3.out.block w.heap.size (Array.getElem?_eq_some_iff.1 T_2_1.out).1).trans T_2_1.out)
    clear m_2_1_0 m_2_1_1 m_2_1_2 z_2_1
    have m_3_1_0 : w3.cell? ⟨w.heap.size, 0, none⟩ = some (.int .i64 lv) := by rw [cell_of_row w3 _ _ _ _ (0, 0) T_3_1.out]; rfl
    have m_3_1_1 : w3.cell? ⟨w.heap.size, 1, none⟩ = some (.int .i64 a) := by rw [cell_of_row w3 _ _ _ _ (0, 0) T_3_1.out]; rfl
    have m_3_1_2 : w3.cell? ⟨w.heap.size, 2, none⟩ = some (.int .i64 b) := by rw [cell_of_row w3 _ _ _ _ (0, 0) T_3_1.out]; rfl
    have z_3_1 : w.heap.size < w3.heap.size := (Array.getElem?_eq_some_iff.1 T_3_1.out).1
    clear hb
    have O_s2 := hid o2
    clear o2
    have O_s1_3 := hid (O_s1.out.below HB_3.out)
    go_wp2_with fail
    refine (s_RepeatDay_no _ _ _ _ _ _ _ _ _ _ ins outs _ (O_s1_3.out.at.below (by go_grown)) (O_s2.out.at.below (by go_grown)) (by omega) (by omega) HD.out).mono ?_
    rintro e w4 ⟨rfl, hb⟩
    have HB_4 := hid (bstep (by go_grown) hb : Below w3.heap.size w3 w4)
    have B_4 := hid (bstep B_3.out HB_4.out)
    have S_4 := HB_4.out.size
    have T_4_1 := hid ((HB_4.out.block w.heap.size (Array.getElem?_eq_some_iff.1 T_3_1.out).1).trans T_3_1.out)
    clear m_3_1_0 m_3_1_1 m_3_1_2 z_3_1
    have m_4_1_0 : w4.cell? ⟨w.heap.size, 0, none⟩ = some (.int .i64 lv) := by rw [cell_of_row w4 _ _ _ _ (0, 0) T_4_1.out]; rfl
    have m_4_1_1 : w4.cell? ⟨w.heap.size, 1, none⟩ = some (.int .i64 a) := by rw [cell_of_row w4 _ _ _ _ (0, 0) T_4_1.out]; rfl
    have m_4_1_2 : w4.cell? ⟨w.heap.size, 2, none⟩ = some (.int .i64 b) := by rw [cell_of_row w4 _ _ _ _ (0, 0) T_4_1.out]; rfl
    have z_4_1 : w.heap.size < w4.heap.size := (Array.getElem?_eq_some_iff.1 T_4_1.out).1
    clear hb
    go_wp2_with fail
    refine (l_toIntS _ _ _ ins _ ((H_ins.out.below B_4.out).below (by go_grown)) (by omega)).mono ?_
    rintro e w5 ⟨a3, c3, rfl, o3, hb⟩
    have HB_5 := hid (bstep (by go_grown) hb : Below w4.heap.size w4 w5)
    have B_5 := hid (bstep B_4.out HB_5.out)
    have S_5 := HB_5.out.size
    have T_5_1 := hid ((HB_5.out.block w.heap.size (Array.getElem?_eq_some_iff.1 T_4_1.out).1).trans T_4_1.out)
    have T_5_2 : Hid (w5.heap[w4.heap.size]? = some (.cells #[.int .i64 0, .int .i64 0, .int .i64 0] 25 (0, 0))) := hid (by rw [hb.block _ (by simp <;> omega)]; exact heap_alloc_new _ _)
    clear m_4_1_0 m_4_1_1 m_4_1_2 z_4_1
    have m_5_1_0 : w5.cell? ⟨w.heap.size, 0, none⟩ = some (.int .i64 lv) := by rw [cell_of_row w5 _ _ _ _ (0, 0) T_5_1.out]; rfl
    have m_5_1_1 : w5.cell? ⟨w.heap.size, 1, none⟩ = some (.int .i64 a) := by rw [cell_of_row w5 _ _ _ _ (0, 0) T_5_1.out]; rfl
    have m_5_1_2 : w5.cell? ⟨w.heap.size, 2, none⟩ = some (.int .i64 b) := by rw [cell_of_row w5 _ _ _ _ (0, 0) T_5_1.out]; rfl
    have z_5_1 : w.heap.size < w5.heap.size := (Array.getElem?_eq_some_iff.1 T_5_1.out).1
    have m_5_2_0 : w5.cell? ⟨w4.heap.size, 0, none⟩ = some (.int .i64 0) := by rw [cell_of_row w5 _ _ _ _ (0, 0) T_5_2.out]; rfl
    have m_5_2_1 : w5.cell? ⟨w4.heap.size, 1, none⟩ = some (.int .i64 0) := by rw [cell_of_row w5 _ _ _ _ (0, 0) T_5_2.out]; rfl
    have m_5_2_2 : w5.cell? ⟨w4.heap.size, 2, none⟩ = some (.int .i64 0) := by rw [cell_of_row w5 _ _ _ _ (0, 0) T_5_2.out]; rfl
    have z_5_2 : w4.heap.size < w5.heap.size := (Array.getElem?_eq_some_iff.1 T_5_2.out).1
    clear hb
    have O_x1 := hid o3
    clear o3
    go_wp2_with fail
    refine (l_toIntS _ _ _ outs _ ((H_outs.out.below B_5.out).below (by go_grown)) (by omega)).mono ?_
    rintro e w6 ⟨a4, c4, rfl, o4, hb⟩
    have HB_6 := hid (bstep (by go_grown) hb : Below w5.heap.size w5 w6)
    have B_6 := hid (bstep B_5.out HB_6.out)
    have S_6 := HB_6.out.size
    have T_6_1 := hid ((HB_6.out.block w.heap.size (Array.getElem?_eq_some_iff.1 T_5_1.out).1).trans T_5_1.out)
    have T_6_2 := hid ((HB_6.out.block w4.heap.size (Array.getElem?_eq_some_iff.1 T_5_2.out).1).trans T_5_2.out)
    clear m_5_1_0 m_5_1_1 m_5_1_2 z_5_1 m_5_2_0 m_5_2_1 m_5_2_2 z_5_2
    have m_6_1_0 : w6.cell? ⟨w.heap.size, 0, none⟩ = some (.int .i64 lv) := by rw [cell_of_row w6 _ _ _ _ (0, 0) T_6_1.out]; rfl
    have m_6_1_1 : w6.cell? ⟨w.heap.size, 1, none⟩ = some (.int .i64 a) := by rw [cell_of_row w6 _ _ _ _ (0, 0) T_6_1.out]; rfl
    have m_6_1_2 : w6.cell? ⟨w.heap.size, 2, none⟩ = some (.int .i64 b) := by rw [cell_of_row w6 _ _ _ _ (0, 0) T_6_1.out]; rfl
    have z_6_1 : w.heap.size < w6.heap.size := (Array.getElem?_eq_some_iff.1 T_6_1.out).1
    have m_6_2_0 : w6.cell? ⟨w4.heap.size, 0, none⟩ = some (.int .i64 0) := by rw [cell_of_row w6 _ _ _ _ (0, 0) T_6_2.out]; rfl
    have m_6_2_1 : w6.cell? ⟨w4.heap.size, 1, none⟩ = some (.int .i64 0) := by rw [cell_of_row w6 _ _ _ _ (0, 0) T_6_2.out]; rfl
    have m_6_2_2 : w6.cell? ⟨w4.heap.size, 2, none⟩ = some (.int .i64 0) := by rw [cell_of_row w6 _ _ _ _ (0, 0) T_6_2.out]; rfl
    have z_6_2 : w4.heap.size < w6.heap.size := (Array.getElem?_eq_some_iff.1 T_6_2.out).1
    clear hb
    have O_x2 := hid o4
    clear o4
    go_wp2_with fail
    refine (l_toTank _ _ _ _).mono ?_
    rintro e w7 ⟨rfl, hb⟩
    have HB_7 := hid (bstep (by go_grown) hb : Below w6.heap.size w6 w7)
    have B_7 := hid (bstep B_6.out HB_7.out)
    have S_7 := HB_7.out.size
    have T_7_1 := hid ((HB_7.out.block w.heap.size (Array.getElem?_eq_some_iff.1 T_6_1.out).1).trans T_6_1.out)
    have T_7_2 := hid ((HB_7.out.block w4.heap.size (Array.getElem?_eq_some_iff.1 T_6_2.out).1).trans T_6_2.out)
    clear m_6_1_0 m_6_1_1 m_6_1_2 z_6_1 m_6_2_0 m_6_2_1 m_6_2_2 z_6_2
    have m_7_1_0 : w7.cell? ⟨w.heap.size, 0, none⟩ = some (.int .i64 lv) := by rw [cell_of_row w7 _ _ _ _ (0, 0) T_7_1.out]; rfl
    have m_7_1_1 : w7.cell? ⟨w.heap.size, 1, none⟩ = some (.int .i64 a) := by rw [cell_of_row w7 _ _ _ _ (0, 0) T_7_1.out]; rfl
    have m_7_1_2 : w7.cell? ⟨w.heap.size, 2, none⟩ = some (.int .i64 b) := by rw [cell_of_row w7 _ _ _ _ (0, 0) T_7_1.out]; rfl
    have z_7_1 : w.heap.size < w7.heap.size := (Array.getElem?_eq_some_iff.1 T_7_1.out).1
    have m_7_2_0 : w7.cell? ⟨w4.heap.size, 0, none⟩ = some (.int .i64 0) := by rw [cell_of_row w7 _ _ _ _ (0, 0) T_7_2.out]; rfl
    have m_7_2_1 : w7.cell? ⟨w4.heap.size, 1, none⟩ = some (.int .i64 0) := by rw [cell_of_row w7 _ _ _ _ (0, 0) T_7_2.out]; rfl
    have m_7_2_2 : w7.cell? ⟨w4.heap.size, 2, none⟩ = some (.int .i64 0) := by rw [cell_of_row w7 _ _ _ _ (0, 0) T_7_2.out]; rfl
    have z_7_2 : w4.heap.size < w7.heap.size := (Array.getElem?_eq_some_iff.1 T_7_2.out).1
    clear hb
    have O_x1_7 := hid ((O_x1.out.below HB_6.out).below HB_7.out)
    have O_x2_7 := hid (O_x2.out.below HB_7.out)
    go_wp2_with fail
    refine (i_RepeatDay_no _ _ _ _ _ _ _ _ _ _ ins outs _ (O_x1_7.out.at.below (by go_grown)) (O_x2_7.out.at.below (by go_grown)) (by omega) (by omega) HD.out).mono ?_
    rintro e w8 ⟨rfl, hb⟩
    have HB_8 := hid (bstep (by go_grown) hb : Below w7.heap.size w7 w8)
    have B_8 := hid (bstep B_7.out HB_8.out)
    have S_8 := HB_8.out.size
    have T_8_1 := hid ((HB_8.out.block w.heap.size (Array.getElem?_eq_some_iff.1 T_7_1.out).1).trans T_7_1.out)
    have T_8_2 := hid ((HB_8.out.block w4.heap.size (Array.getElem?_eq_some_iff.1 T_7_2.out).1).trans T_7_2.out)
    clear m_7_1_0 m_7_1_1 m_7_1_2 z_7_1 m_7_2_0 m_7_2_1 m_7_2_2 z_7_2
    have m_8_1_0 : w8.cell? ⟨w.heap.size, 0, none⟩ = some (.int .i64 lv) := by rw [cell_of_row w8 _ _ _ _ (0, 0) T_8_1.out]; rfl
    have m_8_1_1 : w8.cell? ⟨w.heap.size, 1, none⟩ = some (.int .i64 a) := by rw [cell_of_row w8 _ _ _ _ (0, 0) T_8_1.out]; rfl
    have m_8_1_2 : w8.cell? ⟨w.heap.size, 2, none⟩ = some (.int .i64 b) := by rw [cell_of_row w8 _ _ _ _ (0, 0) T_8_1.out]; rfl
    have z_8_1 : w.heap.size < w8.heap.size := (Array.getElem?_eq_some_iff.1 T_8_1.out).1
    have m_8_2_0 : w8.cell? ⟨w4.heap.size, 0, none⟩ = some (.int .i64 0) := by rw [cell_of_row w8 _ _ _ _ (0, 0) T_8_2.out]; rfl
    have m_8_2_1 : w8.cell? ⟨w4.heap.size, 1, none⟩ = some (.int .i64 0) := by rw [cell_of_row w8 _ _ _ _ (0, 0) T_8_2.out]; rfl
    have m_8_2_2 : w8.cell? ⟨w4.heap.size, 2, none⟩ = some (.int .i64 0) := by rw [cell_of_row w8 _ _ _ _ (0, 0) T_8_2.out]; rfl
    have z_8_2 : w4.heap.size < w8.heap.size := (Array.getElem?_eq_some_iff.1 T_8_2.out).1
    clear hb
    go_wp2_with fail
    refine (l_eqTank _ _ _ _).mono ?_
    rintro e w9 ⟨rfl, hb⟩
    have HB_9 := hid (bstep (by go_grown) hb : Below w8.heap.size w8 w9)
    have B_9 := hid (bstep B_8.out HB_9.out)
    have S_9 := HB_9.out.size
    have T_9_1 := hid ((HB_9.out.block w.heap.size (Array.getElem?_eq_some_iff.1 T_8_1.out).1).trans T_8_1.out)
    have T_9_2 := hid ((HB_9.out.block w4.heap.size (Array.getElem?_eq_some_iff.1 T_8_2.out).1).trans T_8_2.out)
    have T_9_3 : Hid (w9.heap[w8.heap.size]? = some (.cells #[.int .i64 0, .int .i64 0, .int .i64 0] 25 (0, 0))) := hid (by rw [hb.block _ (by simp <;> omega)]; exact heap_alloc_new _ _)
    clear m_8_1_0 m_8_1_1 m_8_1_2 z_8_1 m_8_2_0 m_8_2_1 m_8_2_2 z_8_2
    have m_9_1_0 : w9.cell? ⟨w.heap.size, 0, none⟩ = some (.int .i64 lv) := by rw [cell_of_row w9 _ _ _ _ (0, 0) T_9_1.out]; rfl
    have m_9_1_1 : w9.cell? ⟨w.heap.size, 1, none⟩ = some (.int .i64 a) := by rw [cell_of_row w9 _ _ _ _ (0, 0) T_9_1.out]; rfl
    have m_9_1_2 : w9.cell? ⟨w.heap.size, 2, none⟩ = some (.int .i64 b) := by rw [cell_of_row w9 _ _ _ _ (0, 0) T_9_1.out]; rfl
    have z_9_1 : w.heap.size < w9.heap.size := (Array.getElem?_eq_some_iff.1 T_9_1.out).1
    have m_9_2_0 : w9.cell? ⟨w4.heap.size, 0, none⟩ = some (.int .i64 0) := by rw [cell_of_row w9 _ _ _ _ (0, 0) T_9_2.out]; rfl
    have m_9_2_1 : w9.cell? ⟨w4.heap.size, 1, none⟩ = some (.int .i64 0) := by rw [cell_of_row w9 _ _ _ _ (0, 0) T_9_2.out]; rfl
    have m_9_2_2 : w9.cell? ⟨w4.heap.size, 2, none⟩ = some (.int .i64 0) := by rw [cell_of_row w9 _ _ _ _ (0, 0) T_9_2.out]; rfl
    have z_9_2 : w4.heap.size < w9.heap.size := (Array.getElem?_eq_some_iff.1 T_9_2.out).1
    have m_9_3_0 : w9.cell? ⟨w8.heap.size, 0, none⟩ = some (.int .i64 0) := by rw [cell_of_row w9 _ _ _ _ (0, 0) T_9_3.out]; rfl
    have m_9_3_1 : w9.cell? ⟨w8.heap.size, 1, none⟩ = some (.int .i64 0) := by rw [cell_of_row w9 _ _ _ _ (0, 0) T_9_3.out]; rfl
    have m_9_3_2 : w9.cell? ⟨w8.heap.size, 2, none⟩ = some (.int .i64 0) := by rw [cell_of_row w9 _ _ _ _ (0, 0) T_9_3.out]; rfl
    have z_9_3 : w8.heap.size < w9.heap.size := (Array.getElem?_eq_some_iff.1 T_9_3.out).1
    clear hb
    go_wp2_with fail
    refine (l_toIntS _ _ _ ins _ ((H_ins.out.below B_9.out).below (by go_grown)) (by omega)).mono ?_
    rintro e w10 ⟨a5, c5, rfl, o5, hb⟩
    have HB_10 := hid (bstep (by go_grown) hb : Below w9.heap.size w9 w10)
    have B_10 := hid (bstep B_9.out HB_10.out)
    have S_10 := HB_10.out.size
    have T_10_1 := hid ((HB_10.out.block w.heap.size (Array.getElem?_eq_some_iff.1 T_9_1.out).1).trans T_9_1.out)
    have T_10_2 := hid ((HB_10.out.block w4.heap.size (Array.getElem?_eq_some_iff.1 T_9_2.out).1).trans T_9_2.out)
    have T_10_3 := hid ((HB_10.out.block w8.heap.size (Array.getElem?_eq_some_iff.1 T_9_3.out).1).trans T_9_3.out)
    clear m_9_1_0 m_9_1_1 m_9_1_2 z_9_1 m_9_2_0 m_9_2_1 m_9_2_2 z_9_2 m_9_3_0 m_9_3_1 m_9_3_2 z_9_3
    have m_10_1_0 : w10.cell? ⟨w.heap.size, 0, none⟩ = some (.int .i64 lv) := by rw [cell_of_row w10 _ _ _ _ (0, 0) T_10_1.out]; rfl
    have m_10_1_1 : w10.cell? ⟨w.heap.size, 1, none⟩ = some (.int .i64 a) := by rw [cell_of_row w10 _ _ _ _ (0, 0) T_10_1.out]; rfl
    have m_10_1_2 : w10.cell? ⟨w.heap.size, 2, none⟩ = some (.int .i64 b) := by rw [cell_of_row w10 _ _ _ _ (0, 0) T_10_1.out]; rfl
    have z_10_1 : w.heap.size < w10.heap.size := (Array.getElem?_eq_some_iff.1 T_10_1.out).1
    have m_10_2_0 : w10.cell? ⟨w4.heap.size, 0, none⟩ = some (.int .i64 0) := by rw [cell_of_row w10 _ _ _ _ (0, 0) T_10_2.out]; rfl
    have m_10_2_1 : w10.cell? ⟨w4.heap.size, 1, none⟩ = some (.int .i64 0) := by rw [cell_of_row w10 _ _ _ _ (0, 0) T_10_2.out]; rfl
    have m_10_2_2 : w10.cell? ⟨w4.heap.size, 2, none⟩ = some (.int .i64 0) := by rw [cell_of_row w10 _ _ _ _ (0, 0) T_10_2.out]; rfl
    have z_10_2 : w4.heap.size < w10.heap.size := (Array.getElem?_eq_some_iff.1 T_10_2.out).1
    have m_10_3_0 : w10.cell? ⟨w8.heap.size, 0, none⟩ = some (.int .i64 0) := by rw [cell_of_row w10 _ _ _ _ (0, 0) T_10_3.out]; rfl
    have m_10_3_1 : w10.cell? ⟨w8.heap.size, 1, none⟩ = some (.int .i64 0) := by rw [cell_of_row w10 _ _ _ _ (0, 0) T_10_3.out]; rfl
    have m_10_3_2 : w10.cell? ⟨w8.heap.size, 2, none⟩ = some (.int .i64 0) := by rw [cell_of_row w10 _ _ _ _ (0, 0) T_10_3.out]; rfl
    have z_10_3 : w8.heap.size < w10.heap.size := (Array.getElem?_eq_some_iff.1 T_10_3.out).1
    clear hb
    have O_y1 := hid o5
    clear o5
    have O_x1_10 := hid (((O_x1_7.out.below HB_8.out).below HB_9.out).below HB_10.out)
    go_wp2_with fail
    refine (l_eqIntS _ _ _ _ _ _ ins ins _ (O_x1_10.out.at.below (by go_grown)) (O_y1.out.at.below (by go_grown)) (by omega) (by omega)).mono ?_
    rintro e w11 ⟨rfl, hb⟩
    have HB_11 := hid (bstep (by go_grown) hb : Below w10.heap.size w10 w11)
    have B_11 := hid (bstep B_10.out HB_11.out)
    have S_11 := HB_11.out.size
    have T_11_1 := hid ((HB_11.out.block w.heap.size (Array.getElem?_eq_some_iff.1 T_10_1.out).1).trans T_10_1.out)
    have T_11_2 := hid ((HB_11.out.block w4.heap.size (Array.getElem?_eq_some_iff.1 T_10_2.out).1).trans T_10_2.out)
    have T_11_3 := hid ((HB_11.out.block w8.heap.size (Array.getElem?_eq_some_iff.1 T_10_3.out).1).trans T_10_3.out)
    clear m_10_1_0 m_10_1_1 m_10_1_2 z_10_1 m_10_2_0 m_10_2_1 m_10_2_2 z_10_2 m_10_3_0 m_10_3_1 m_10_3_2 z_10_3
    have m_11_1_0 : w11.cell? ⟨w.heap.size, 0, none⟩ = some (.int .i64 lv) := by rw [cell_of_row w11 _ _ _ _ (0, 0) T_11_1.out]; rfl
    have m_11_1_1 : w11.cell? ⟨w.heap.size, 1, none⟩ = some (.int .i64 a) := by rw [cell_of_row w11 _ _ _ _ (0, 0) T_11_1.out]; rfl
    have m_11_1_2 : w11.cell? ⟨w.heap.size, 2, none⟩ = some (.int .i64 b) := by rw [cell_of_row w11 _ _ _ _ (0, 0) T_11_1.out]; rfl
    have z_11_1 : w.heap.size < w11.heap.size := (Array.getElem?_eq_some_iff.1 T_11_1.out).1
    have m_11_2_0 : w11.cell? ⟨w4.heap.size, 0, none⟩ = some (.int .i64 0) := by rw [cell_of_row w11 _ _ _ _ (0, 0) T_11_2.out]; rfl
    have m_11_2_1 : w11.cell? ⟨w4.heap.size, 1, none⟩ = some (.int .i64 0) := by rw [cell_of_row w11 _ _ _ _ (0, 0) T_11_2.out]; rfl
    have m_11_2_2 : w11.cell? ⟨w4.heap.size, 2, none⟩ = some (.int .i64 0) := by rw [cell_of_row w11 _ _ _ _ (0, 0) T_11_2.out]; rfl
    have z_11_2 : w4.heap.size < w11.heap.size := (Array.getElem?_eq_some_iff.1 T_11_2.out).1
    have m_11_3_0 : w11.cell? ⟨w8.heap.size, 0, none⟩ = some (.int .i64 0) := by rw [cell_of_row w11 _ _ _ _ (0, 0) T_11_3.out]; rfl
    have m_11_3_1 : w11.cell? ⟨w8.heap.size, 1, none⟩ = some (.int .i64 0) := by rw [cell_of_row w11 _ _ _ _ (0, 0) T_11_3.out]; rfl
    have m_11_3_2 : w11.cell? ⟨w8.heap.size, 2, none⟩ = some (.int .i64 0) := by rw [cell_of_row w11 _ _ _ _ (0, 0) T_11_3.out]; rfl
    have z_11_3 : w8.heap.size < w11.heap.size := (Array.getElem?_eq_some_iff.1 T_11_3.out).1
    clear hb
    go_wp2_with fail
    refine (l_toIntS _ _ _ outs _ ((H_outs.out.below B_11.out).below (by go_grown)) (by omega)).mono ?_
    rintro e w12 ⟨a6, c6, rfl, o6, hb⟩
    have HB_12 := hid (bstep (by go_grown) hb : Below w11.heap.size w11 w12)
    have B_12 := hid (bstep B_11.out HB_12.out)
    have S_12 := HB_12.out.size
    have T_12_1 := hid ((HB_12.out.block w.heap.size (Array.getElem?_eq_some_iff.1 T_11_1.out).1).trans T_11_1.out)
    have T_12_2 := hid ((HB_12.out.block w4.heap.size (Array.getElem?_eq_some_iff.1 T_11_2.out).1).trans T_11_2.out)
    have T_12_3 := hid ((HB_12.out.block w8.heap.size (Array.getElem?_eq_some_iff.1 T_11_3.out).1).trans T_11_3.out)
    clear m_11_1_0 m_11_1_1 m_11_1_2 z_11_1 m_11_2_0 m_11_2_1 m_11_2_2 z_11_2 m_11_3_0 m_11_3_1 m_11_3_2 z_11_3
    have m_12_1_0 : w12.cell? ⟨w.heap.size, 0, none⟩ = some (.int .i64 lv) := by rw [cell_of_row w12 _ _ _ _ (0, 0) T_12_1.out]; rfl
    have m_12_1_1 : w12.cell? ⟨w.heap.size, 1, none⟩ = some (.int .i64 a) := by rw [cell_of_row w12 _ _ _ _ (0, 0) T_12_1.out]; rfl
    have m_12_1_2 : w12.cell? ⟨w.heap.size, 2, none⟩ = some (.int .i64 b) := by rw [cell_of_row w12 _ _ _ _ (0, 0) T_12_1.out]; rfl
    have z_12_1 : w.heap.size < w12.heap.size := (Array.getElem?_eq_some_iff.1 T_12_1.out).1
    have m_12_2_0 : w12.cell? ⟨w4.heap.size, 0, none⟩ = some (.int .i64 0) := by rw [cell_of_row w12 _ _ _ _ (0, 0) T_12_2.out]; rfl
    have m_12_2_1 : w12.cell? ⟨w4.heap.size, 1, none⟩ = some (.int .i64 0) := by rw [cell_of_row w12 _ _ _ _ (0, 0) T_12_2.out]; rfl
    have m_12_2_2 : w12.cell? ⟨w4.heap.size, 2, none⟩ = some (.int .i64 0) := by rw [cell_of_row w12 _ _ _ _ (0, 0) T_12_2.out]; rfl
    have z_12_2 : w4.heap.size < w12.heap.size := (Array.getElem?_eq_some_iff.1 T_12_2.out).1
    have m_12_3_0 : w12.cell? ⟨w8.heap.size, 0, none⟩ = some (.int .i64 0) := by rw [cell_of_row w12 _ _ _ _ (0, 0) T_12_3.out]; rfl
    have m_12_3_1 : w12.cell? ⟨w8.heap.size, 1, none⟩ = some (.int .i64 0) := by rw [cell_of_row w12 _ _ _ _ (0, 0) T_12_3.out]; rfl
    have m_12_3_2 : w12.cell? ⟨w8.heap.size, 2, none⟩ = some (.int .i64 0) := by rw [cell_of_row w12 _ _ _ _ (0, 0) T_12_3.out]; rfl
    have z_12_3 : w8.heap.size < w12.heap.size := (Array.getElem?_eq_some_iff.1 T_12_3.out).1
    clear hb
    have O_y2 := hid o6
    clear o6
    have O_x2_12 := hid (((((O_x2_7.out.below HB_8.out).below HB_9.out).below HB_10.out).below HB_11.out).below HB_12.out)
    go_wp2_with fail
    refine (l_eqIntS _ _ _ _ _ _ outs outs _ (O_x2_12.out.at.below (by go_grown)) (O_y2.out.at.below (by go_grown)) (by omega) (by omega)).mono ?_
    rintro e w13 ⟨rfl, hb⟩
    have HB_13 := hid (bstep (by go_grown) hb : Below w12.heap.size w12 w13)
    have B_13 := hid (bstep B_12.out HB_13.out)
    have S_13 := HB_13.out.size
    have T_13_1 := hid ((HB_13.out.block w.heap.size (Array.getElem?_eq_some_iff.1 T_12_1.out).1).trans T_12_1.out)
    have T_13_2 := hid ((HB_13.out.block w4.heap.size (Array.getElem?_eq_some_iff.1 T_12_2.out).1).trans T_12_2.out)
    have T_13_3 := hid ((HB_13.out.block w8.heap.size (Array.getElem?_eq_some_iff.1 T_12_3.out).1).trans T_12_3.out)
    clear m_12_1_0 m_12_1_1 m_12_1_2 z_12_1 m_12_2_0 m_12_2_1 m_12_2_2 z_12_2 m_12_3_0 m_12_3_1 m_12_3_2 z_12_3
    have m_13_1_0 : w13.cell? ⟨w.heap.size, 0, none⟩ = some (.int .i64 lv) := by rw [cell_of_row w13 _ _ _ _ (0, 0) T_13_1.out]; rfl
    have m_13_1_1 : w13.cell? ⟨w.heap.size, 1, none⟩ = some (.int .i64 a) := by rw [cell_of_row w13 _ _ _ _ (0, 0) T_13_1.out]; rfl
    have m_13_1_2 : w13.cell? ⟨w.heap.size, 2, none⟩ = some (.int .i64 b) := by rw [cell_of_row w13 _ _ _ _ (0, 0) T_13_1.out]; rfl
    have z_13_1 : w.heap.size < w13.heap.size := (Array.getElem?_eq_some_iff.1 T_13_1.out).1
    have m_13_2_0 : w13.cell? ⟨w4.heap.size, 0, none⟩ = some (.int .i64 0) := by rw [cell_of_row w13 _ _ _ _ (0, 0) T_13_2.out]; rfl
    have m_13_2_1 : w13.cell? ⟨w4.heap.size, 1, none⟩ = some (.int .i64 0) := by rw [cell_of_row w13 _ _ _ _ (0, 0) T_13_2.out]; rfl
    have m_13_2_2 : w13.cell? ⟨w4.heap.size, 2, none⟩ = some (.int .i64 0) := by rw [cell_of_row w13 _ _ _ _ (0, 0) T_13_2.out]; rfl
    have z_13_2 : w4.heap.size < w13.heap.size := (Array.getElem?_eq_some_iff.1 T_13_2.out).1
    have m_13_3_0 : w13.cell? ⟨w8.heap.size, 0, none⟩ = some (.int .i64 0) := by rw [cell_of_row w13 _ _ _ _ (0, 0) T_13_3.out]; rfl
    have m_13_3_1 : w13.cell? ⟨w8.heap.size, 1, none⟩ = some (.int .i64 0) := by rw [cell_of_row w13 _ _ _ _ (0, 0) T_13_3.out]; rfl
    have m_13_3_2 : w13.cell? ⟨w8.heap.size, 2, none⟩ = some (.int .i64 0) := by rw [cell_of_row w13 _ _ _ _ (0, 0) T_13_3.out]; rfl
    have z_13_3 : w8.heap.size < w13.heap.size := (Array.getElem?_eq_some_iff.1 T_13_3.out).1
    clear hb
    go_wp2
    go_ret
    exact ⟨rfl, B_13.out⟩

set_option maxRecDepth 100000 in
theorem fnExactRepeatDay_lifted (os : Os) (started : os.Started) (H : Type) (enc : TypeId × Value → H) :
    ReturnsInHanded {} Try.checked os 9 .any (Rows.fnExactRepeatDaySpec.pre6 enc Try.prog Try.f9 Rows.fnExactRepeatDayRow.domain false) (Rows.fnExactRepeatDaySpec.post enc Try.prog Try.f9 false true false false) := by
  refine returnsInHanded_of_change (C := Try.checked) Try.own started (by kernel_rfl) Try.func9
    (ChangeSpec.witness6 (enc := enc) (C := Try.checked) false ⟨#[], #[.agg #[.int .i64 0, .int .i64 0, .int .i64 0], .slice none 0 0, .slice none 0 0, .int .i64 0], []⟩ 8 (by kernel_rfl) (by kernel_rfl) (by kernel_rfl) (by kernel_rfl)) ?_
  intro W base args ds gs before hval0 hW _ _
  have hval : ∀ (j : Nat) t v, Try.f9.params[j]? = some t → args[j]? = some v → Value.okWide Try.prog W .any base t v := hval0
  have hW' : DataW.Whole enc Try.prog Try.f9.params.toList Rows.fnExactRepeatDaySpec.vars false W args.toList ds gs before := hW
  obtain ⟨p, q, hA0, hV, rfl, hfz, hnd⟩ := hW
  have hlt : ∀ x ∈ p, x.block < W.heap.size := fun x hx => hW'.lt x (by simp [hx])
  have hA : DataW.TrodAll enc Try.prog W 0 (fun _ => true) true Try.f9.params.toList args.toList ds p := hA0
  rw [Try.params9] at hA hval
  clear hA0 hval0
  obtain ⟨v0, v1, v2, v3, d0, d1, d2, d3, p0, p1, p2, p3, rfl, rfl, rfl, h0, h1, h2, h3⟩ := trodAll_four hA
  obtain ⟨rfl, rfl⟩ := trodVars_none hV
  obtain ⟨x1, n1, k1, l1, rfl, g1, b1⟩ := open_ints_at (hval 1 32 v1 rfl rfl) h1
  obtain ⟨x2, n2, k2, l2, rfl, g2, b2⟩ := open_ints_at (hval 2 32 v2 rfl rfl) h2
  obtain ⟨i3, rfl, rfl, rfl, wi3⟩ := open_int Try.underlying3 (hval 3 3 v3 rfl rfl) h3
  obtain ⟨c0, c1, c2, y0, y1, y2, m, rfl, rfl, rfl, hy0, hy1, hy2⟩ := open_agg3 Try.underlying23 (by kernel_rfl) Try.cellsTank (hval 0 23 v0 rfl rfl) h0
  obtain ⟨t0, e0, _, wt0⟩ := DataW.trod_int Try.underlying3 hy0
  obtain ⟨t1, e1, _, wt1⟩ := DataW.trod_int Try.underlying3 hy1
  obtain ⟨t2, e2, _, wt2⟩ := DataW.trod_int Try.underlying3 hy2
  simp at e0 e1 e2
  subst e0 e1 e2
  refine (law_RepeatDay t0 t1 t2 x1 x2 n1 n2 k1 k2 l1 l2 i3 W g1 g2).mono fun e W' ⟨he, hb⟩ => ?_
  subst he
  exact ⟨_, rfl, law_post rfl rfl (by kernel_rfl) hW' rfl rfl rfl hb⟩

theorem fnExactRepeatDay_proved : Rows.FnExactRepeatDaySaid :=
  OpenClaim.holds_of_wide 9 Try.f9 rfl rfl rfl rfl rfl rfl rfl ⟨rfl, rfl, rfl, rfl, rfl⟩ rfl rfl rfl rfl rfl (by kernel_rfl) Try.func9 (by kernel_rfl)
    (of_decide_eq_true (by kernel_rfl)) (by unfold Func.isWrapper; first | (rw [if_pos (by decide +kernel)]; kernel_rfl) | (rw [if_neg (by decide +kernel)]; exact ⟨rfl, rfl⟩))
    (fun os started H enc _ => fnExactRepeatDay_lifted os started H enc)

end Go.Proofs.Ytbeeonpefmdkeaa
