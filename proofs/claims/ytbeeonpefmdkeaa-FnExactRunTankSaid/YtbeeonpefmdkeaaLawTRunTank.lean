/-
  The law FnExactRunTank returns true for every input, and leaves its arguments as they were. No condition.
-/
import Derived.Test.YtbeeonpefmdkeaaTankStart
import Derived.Test.YtbeeonpefmdkeaaLiftTank
import Derived.Test.YtbeeonpefmdkeaaMarks
set_option linter.unusedVariables false
set_option linter.unusedSimpArgs false
namespace Go.Proofs.Ytbeeonpefmdkeaa
open Go.ChangeShapes Go.WideShapes Go.ChangeAt Go.RowKit Go.Joins

theorem i_RunTank_none (lv a b : Int) (p q : Option Addr) (n m c d : Nat) (ins outs : List Int) (w : World) (h : IntsAt w p n ins) (h' : IntsAt w q m outs) (hn : n ≤ 1048576) (hm : m ≤ 1048576) (hd : goodDay lv a b ins outs = false) :
    Calls Try.prog 36 #[.agg #[.int .i64 lv, .int .i64 a, .int .i64 b], .slice p n c, .slice q m d] w fun e w' => ∃ a1 c1, e = .returned (.tuple #[.slice a1 0 c1, .int .i64 0, .int .i64 0, .bool false]) ∧ Below w.heap.size w w' ∧ OwnI w' w.heap.size (.slice a1 0 c1) [] :=
  (i_RunTank_no lv a b p q n m c d ins outs w h h' hn hm hd).mono fun _ _ ⟨e, hb⟩ => ⟨none, 0, e, hb, World.ownsRow_nil _ _ _ _⟩

set_option maxRecDepth 100000 in
set_option maxHeartbeats 4000000 in
theorem law_RunTank (lv a b : Int) (p q : Option Addr) (n m c d : Nat) (ins outs : List Int) (w : World) (h : IntsAt w p n ins) (h' : IntsAt w q m outs) :
    Calls Try.prog 11 #[.agg #[.int .i64 lv, .int .i64 a, .int .i64 b], .slice p n c, .slice q m d] w fun e w' => e = .returned (.bool true) ∧ Below w.heap.size w w' := by
  have H_ins := hid h
  have H_outs := hid h'
  have hl := h.1
  have hl' := h'.1
  clear h h'
  by_cases hn : 1048576 < n
  · clear hl hl'
    go_enter Try.func11, Try.ntmps11
    go_wp2
    go_ret
    exact ⟨rfl, by go_grown⟩
  by_cases hm : 1048576 < m
  · clear hl hl'
    go_enter Try.func11, Try.ntmps11
    go_wp2
    go_ret
    exact ⟨rfl, by go_grown⟩
  by_cases hd : goodDay lv a b ins outs = true
  · obtain ⟨_, _, hlen, _, _⟩ := goodDay_iff.1 hd
    obtain rfl : m = n := by omega
    have HD := hid hd
    clear hd hl hl' hlen
    have hm12 : m ≤ 12 := by have := goodDay_iff.1 HD.out; have := H_ins.out.1; omega
    have hx : ((spillsOf a b lv ins outs m).sum != (spillsOf a b lv ins outs m).sum) = false := by simp
    have hy : ((missOf a b lv ins outs m).sum != (missOf a b lv ins outs m).sum) = false := by simp
    go_enter Try.func11, Try.ntmps11
    go_wp2_with fail
    refine (l_toTank _ _ _ _).mono ?_
    rintro e w1 ⟨rfl, hb⟩
    have HB_1 := hid (bstep (by go_grown) hb : Below w.heap.size w w1)
    have B_1 := HB_1
    have S_1 := HB_1.out.size
    have T_1_1 : Hid (w1.heap[w.heap.size]? = some (.cells #[.int .i64 lv, .int .i64 a, .int .i64 b] 23 (0, 0))) := hid (by rw [hb.block _ (by simp <;> omega)]; exact heap_alloc_new _ _)
    have Z_1 : w.heap.size < w1.heap.size := (Array.getElem?_eq_some_iff.1 T_1_1.out).1
    have m_1_1_0 : w1.cell? ⟨w.heap.size, 0, none⟩ = some (.int .i64 lv) := by rw [cell_of_row w1 _ _ _ _ (0, 0) T_1_1.out]; rfl
    have m_1_1_1 : w1.cell? ⟨w.heap.size, 1, none⟩ = some (.int .i64 a) := by rw [cell_of_row w1 _ _ _ _ (0, 0) T_1_1.out]; rfl
    have m_1_1_2 : w1.cell? ⟨w.heap.size, 2, none⟩ = some (.int .i64 b) := by rw [cell_of_row w1 _ _ _ _ (0, 0) T_1_1.out]; rfl
    have z_1_1 : w.heap.size < w1.heap.size := (Array.getElem?_eq_some_iff.1 T_1_1.out).1
    clear hb
    go_wp2_with fail
    refine (l_toIntS _ _ _ ins _ ((H_ins.out.below B_1.out).below (by go_grown)) (by omega)).mono ?_
    rintro e w2 ⟨a1, c1, rfl, o1, hb⟩
    have HB_2 := hid (bstep (by go_grown) hb : Below w1.heap.size w1 w2)
    have B_2 := hid (bstep B_1.out HB_2.out)
    have S_2 := HB_2.out.size
    have T_2_1 := hid ((HB_2.out.block w.heap.size (Array.getElem?_eq_some_iff.1 T_1_1.out).1).trans T_1_1.out)
    clear m_1_1_0 m_1_1_1 m_1_1_2 z_1_1
    have m_2_1_0 : w2.cell? ⟨w.heap.size, 0, none⟩ = some (.int .i64 lv) := by rw [cell_of_row w2 _ _ _ _ (0, 0) T_2_1.out]; rfl
    have m_2_1_1 : w2.cell? ⟨w.heap.size, 1, none⟩ = some (.int .i64 a) := by rw [cell_of_row w2 _ _ _ _ (0, 0) T_2_1.out]; rfl
    have m_2_1_2 : w2.cell? ⟨w.heap.size, 2, none⟩ = some (.int .i64 b) := by rw [cell_of_row w2 _ _ _ _ (0, 0) T_2_1.out]; rfl
    have z_2_1 : w.heap.size < w2.heap.size := (Array.getElem?_eq_some_iff.1 T_2_1.out).1
    clear hb
    have O_s1 := hid o1
    clear o1
    go_wp2_with fail
    refine (l_toIntS _ _ _ outs _ ((H_outs.out.below B_2.out).below (by go_grown)) (by omega)).mono ?_
    rintro e w3 ⟨a2, c2, rfl, o2, hb⟩
    have HB_3 := hid (bstep (by go_grown) hb : Below w2.heap.size w2 w3)
    have B_3 := hid (bstep B_2.out HB_3.out)
    have S_3 := HB_3.out.size
    have T_3_1 := hid ((HB_3.out.block w.heap.size (Array.getElem?_eq_some_iff.1 T_2_1.out).1).trans T_2_1.out)
    clear m_2_1_0 m_2_1_1 m_2_1_2 z_2_1
    have m_3_1_0 : w3.cell? ⟨w.heap.size, 0, none⟩ = some (.int .i64 lv) := by rw [cell_of_row w3 _ _ _ _ (0, 0) T_3_1.out]; rfl
    have m_3_1_1 : w3.cell? ⟨w.heap.size, 1, none⟩ = some (.int .i64 a) := by rw [cell_of_row w3 _ _ _ _ (0, 0) T_3_1.out]; rfl
    have m_3_1_2 : w3.cell? ⟨w.heap.size, 2, none⟩ = some (.int .i64 b) := by rw [cell_of_row w3 _ _ _ _ (0, 0) T_3_1.out]; rfl
    have z_3_1 : w.heap.size < w3.heap.size := (Array.getElem?_eq_some_iff.1 T_3_1.out).1
    clear hb
    have O_s2 := hid o2
    clear o2
    have O_s1_3 := hid (O_s1.out.below HB_3.out)
    go_wp2_with fail
    refine (s_RunTank_yes _ _ _ _ _ _ _ _ ins outs _ (O_s1_3.out.at.below (by go_grown)) (O_s2.out.at.below (by go_grown)) HD.out).mono ?_
    rintro e w4 ⟨a3, c3, rfl, hb, o3⟩
    have HB_4 := hid (bstep (by go_grown) hb : Below w3.heap.size w3 w4)
    have B_4 := hid (bstep B_3.out HB_4.out)
    have S_4 := HB_4.out.size
    have T_4_1 := hid ((HB_4.out.block w.heap.size (Array.getElem?_eq_some_iff.1 T_3_1.out).1).trans T_3_1.out)
    clear m_3_1_0 m_3_1_1 m_3_1_2 z_3_1
    have m_4_1_0 : w4.cell? ⟨w.heap.size, 0, none⟩ = some (.int .i64 lv) := by rw [cell_of_row w4 _ _ _ _ (0, 0) T_4_1.out]; rfl
    have m_4_1_1 : w4.cell? ⟨w.heap.size, 1, none⟩ = some (.int .i64 a) := by rw [cell_of_row w4 _ _ _ _ (0, 0) T_4_1.out]; rfl
    have m_4_1_2 : w4.cell? ⟨w.heap.size, 2, none⟩ = some (.int .i64 b) := by rw [cell_of_row w4 _ _ _ _ (0, 0) T_4_1.out]; rfl
    have z_4_1 : w.heap.size < w4.heap.size := (Array.getElem?_eq_some_iff.1 T_4_1.out).1
    clear hb
    have O_w0 := hid o3
    clear o3
    go_wp2_with fail
    refine (l_toIntS _ _ _ ins _ ((H_ins.out.below B_4.out).below (by go_grown)) (by omega)).mono ?_
    rintro e w5 ⟨a4, c4, rfl, o4, hb⟩
    have HB_5 := hid (bstep (by go_grown) hb : Below w4.heap.size w4 w5)
    have B_5 := hid (bstep B_4.out HB_5.out)
    have S_5 := HB_5.out.size
    have T_5_1 := hid ((HB_5.out.block w.heap.size (Array.getElem?_eq_some_iff.1 T_4_1.out).1).trans T_4_1.out)
    clear m_4_1_0 m_4_1_1 m_4_1_2 z_4_1
    have m_5_1_0 : w5.cell? ⟨w.heap.size, 0, none⟩ = some (.int .i64 lv) := by rw [cell_of_row w5 _ _ _ _ (0, 0) T_5_1.out]; rfl
    have m_5_1_1 : w5.cell? ⟨w.heap.size, 1, none⟩ = some (.int .i64 a) := by rw [cell_of_row w5 _ _ _ _ (0, 0) T_5_1.out]; rfl
    have m_5_1_2 : w5.cell? ⟨w.heap.size, 2, none⟩ = some (.int .i64 b) := by rw [cell_of_row w5 _ _ _ _ (0, 0) T_5_1.out]; rfl
    have z_5_1 : w.heap.size < w5.heap.size := (Array.getElem?_eq_some_iff.1 T_5_1.out).1
    clear hb
    have O_x1 := hid o4
    clear o4
    go_wp2_with fail
    refine (l_toIntS _ _ _ outs _ ((H_outs.out.below B_5.out).below (by go_grown)) (by omega)).mono ?_
    rintro e w6 ⟨a5, c5, rfl, o5, hb⟩
    have HB_6 := hid (bstep (by go_grown) hb : Below w5.heap.size w5 w6)
    have B_6 := hid (bstep B_5.out HB_6.out)
    have S_6 := HB_6.out.size
    have T_6_1 := hid ((HB_6.out.block w.heap.size (Array.getElem?_eq_some_iff.1 T_5_1.out).1).trans T_5_1.out)
    clear m_5_1_0 m_5_1_1 m_5_1_2 z_5_1
    have m_6_1_0 : w6.cell? ⟨w.heap.size, 0, none⟩ = some (.int .i64 lv) := by rw [cell_of_row w6 _ _ _ _ (0, 0) T_6_1.out]; rfl
    have m_6_1_1 : w6.cell? ⟨w.heap.size, 1, none⟩ = some (.int .i64 a) := by rw [cell_of_row w6 _ _ _ _ (0, 0) T_6_1.out]; rfl
    have m_6_1_2 : w6.cell? ⟨w.heap.size, 2, none⟩ = some (.int .i64 b) := by rw [cell_of_row w6 _ _ _ _ (0, 0) T_6_1.out]; rfl
    have z_6_1 : w.heap.size < w6.heap.size := (Array.getElem?_eq_some_iff.1 T_6_1.out).1
    clear hb
    have O_x2 := hid o5
    clear o5
    go_wp2_with fail
    refine (l_toTank _ _ _ _).mono ?_
    rintro e w7 ⟨rfl, hb⟩
    have HB_7 := hid (bstep (by go_grown) hb : Below w6.heap.size w6 w7)
    have B_7 := hid (bstep B_6.out HB_7.out)
    have S_7 := HB_7.out.size
    have T_7_1 := hid ((HB_7.out.block w.heap.size (Array.getElem?_eq_some_iff.1 T_6_1.out).1).trans T_6_1.out)
    clear m_6_1_0 m_6_1_1 m_6_1_2 z_6_1
    have m_7_1_0 : w7.cell? ⟨w.heap.size, 0, none⟩ = some (.int .i64 lv) := by rw [cell_of_row w7 _ _ _ _ (0, 0) T_7_1.out]; rfl
    have m_7_1_1 : w7.cell? ⟨w.heap.size, 1, none⟩ = some (.int .i64 a) := by rw [cell_of_row w7 _ _ _ _ (0, 0) T_7_1.out]; rfl
    have m_7_1_2 : w7.cell? ⟨w.heap.size, 2, none⟩ = some (.int .i64 b) := by rw [cell_of_row w7 _ _ _ _ (0, 0) T_7_1.out]; rfl
    have z_7_1 : w.heap.size < w7.heap.size := (Array.getElem?_eq_some_iff.1 T_7_1.out).1
    clear hb
    have O_x1_7 := hid ((O_x1.out.below HB_6.out).below HB_7.out)
    have O_x2_7 := hid (O_x2.out.below HB_7.out)
    go_wp2_with fail
    refine (i_RunTank_yes _ _ _ _ _ _ _ _ ins outs _ (O_x1_7.out.at.below (by go_grown)) (O_x2_7.out.at.below (by go_grown)) HD.out).mono ?_
    rintro e w8 ⟨a6, c6, rfl, hb, o6⟩
    have HB_8 := hid (bstep (by go_grown) hb : Below w7.heap.size w7 w8)
    have B_8 := hid (bstep B_7.out HB_8.out)
    have S_8 := HB_8.out.size
    have T_8_1 := hid ((HB_8.out.block w.heap.size (Array.getElem?_eq_some_iff.1 T_7_1.out).1).trans T_7_1.out)
    clear m_7_1_0 m_7_1_1 m_7_1_2 z_7_1
    have m_8_1_0 : w8.cell? ⟨w.heap.size, 0, none⟩ = some (.int .i64 lv) := by rw [cell_of_row w8 _ _ _ _ (0, 0) T_8_1.out]; rfl
    have m_8_1_1 : w8.cell? ⟨w.heap.size, 1, none⟩ = some (.int .i64 a) := by rw [cell_of_row w8 _ _ _ _ (0, 0) T_8_1.out]; rfl
    have m_8_1_2 : w8.cell? ⟨w.heap.size, 2, none⟩ = some (.int .i64 b) := by rw [cell_of_row w8 _ _ _ _ (0, 0) T_8_1.out]; rfl
    have z_8_1 : w.heap.size < w8.heap.size := (Array.getElem?_eq_some_iff.1 T_8_1.out).1
    clear hb
    have O_g0 := hid o6
    clear o6
    have O_w0_8 := hid ((((O_w0.out.below HB_5.out).below HB_6.out).below HB_7.out).below HB_8.out)
    go_wp2_with fail
    refine (l_eqIntS _ _ _ _ _ _ (levelsOf a b lv ins outs m) (levelsOf a b lv ins outs m) _ (O_g0.out.at.below (by go_grown)) (O_w0_8.out.at.below (by go_grown)) (by omega) (by omega)).mono ?_
    rintro e w9 ⟨rfl, hb⟩
    have HB_9 := hid (bstep (by go_grown) hb : Below w8.heap.size w8 w9)
    have B_9 := hid (bstep B_8.out HB_9.out)
    have S_9 := HB_9.out.size
    have T_9_1 := hid ((HB_9.out.block w.heap.size (Array.getElem?_eq_some_iff.1 T_8_1.out).1).trans T_8_1.out)
    clear m_8_1_0 m_8_1_1 m_8_1_2 z_8_1
    have m_9_1_0 : w9.cell? ⟨w.heap.size, 0, none⟩ = some (.int .i64 lv) := by rw [cell_of_row w9 _ _ _ _ (0, 0) T_9_1.out]; rfl
    have m_9_1_1 : w9.cell? ⟨w.heap.size, 1, none⟩ = some (.int .i64 a) := by rw [cell_of_row w9 _ _ _ _ (0, 0) T_9_1.out]; rfl
    have m_9_1_2 : w9.cell? ⟨w.heap.size, 2, none⟩ = some (.int .i64 b) := by rw [cell_of_row w9 _ _ _ _ (0, 0) T_9_1.out]; rfl
    have z_9_1 : w.heap.size < w9.heap.size := (Array.getElem?_eq_some_iff.1 T_9_1.out).1
    clear hb
    go_wp2_with fail
    refine (l_toIntS _ _ _ ins _ ((H_ins.out.below B_9.out).below (by go_grown)) (by omega)).mono ?_
    rintro e w10 ⟨a7, c7, rfl, o7, hb⟩
    have HB_10 := hid (bstep (by go_grown) hb : Below w9.heap.size w9 w10)
    have B_10 := hid (bstep B_9.out HB_10.out)
    have S_10 := HB_10.out.size
    have T_10_1 := hid ((HB_10.out.block w.heap.size (Array.getElem?_eq_some_iff.1 T_9_1.out).1).trans T_9_1.out)
    clear m_9_1_0 m_9_1_1 m_9_1_2 z_9_1
    have m_10_1_0 : w10.cell? ⟨w.heap.size, 0, none⟩ = some (.int .i64 lv) := by rw [cell_of_row w10 _ _ _ _ (0, 0) T_10_1.out]; rfl
    have m_10_1_1 : w10.cell? ⟨w.heap.size, 1, none⟩ = some (.int .i64 a) := by rw [cell_of_row w10 _ _ _ _ (0, 0) T_10_1.out]; rfl
    have m_10_1_2 : w10.cell? ⟨w.heap.size, 2, none⟩ = some (.int .i64 b) := by rw [cell_of_row w10 _ _ _ _ (0, 0) T_10_1.out]; rfl
    have z_10_1 : w.heap.size < w10.heap.size := (Array.getElem?_eq_some_iff.1 T_10_1.out).1
    clear hb
    have O_y1 := hid o7
    clear o7
    have O_x1_10 := hid (((O_x1_7.out.below HB_8.out).below HB_9.out).below HB_10.out)
    go_wp2_with fail
    refine (l_eqIntS _ _ _ _ _ _ ins ins _ (O_x1_10.out.at.below (by go_grown)) (O_y1.out.at.below (by go_grown)) (by omega) (by omega)).mono ?_
    rintro e w11 ⟨rfl, hb⟩
    have HB_11 := hid (bstep (by go_grown) hb : Below w10.heap.size w10 w11)
    have B_11 := hid (bstep B_10.out HB_11.out)
    have S_11 := HB_11.out.size
    have T_11_1 := hid ((HB_11.out.block w.heap.size (Array.getElem?_eq_some_iff.1 T_10_1.out).1).trans T_10_1.out)
    clear m_10_1_0 m_10_1_1 m_10_1_2 z_10_1
    have m_11_1_0 : w11.cell? ⟨w.heap.size, 0, none⟩ = some (.int .i64 lv) := by rw [cell_of_row w11 _ _ _ _ (0, 0) T_11_1.out]; rfl
    have m_11_1_1 : w11.cell? ⟨w.heap.size, 1, none⟩ = some (.int .i64 a) := by rw [cell_of_row w11 _ _ _ _ (0, 0) T_11_1.out]; rfl
    have m_11_1_2 : w11.cell? ⟨w.heap.size, 2, none⟩ = some (.int .i64 b) := by rw [cell_of_row w11 _ _ _ _ (0, 0) T_11_1.out]; rfl
    have z_11_1 : w.heap.size < w11.heap.size := (Array.getElem?_eq_some_iff.1 T_11_1.out).1
    clear hb
    go_wp2_with fail
    refine (l_toIntS _ _ _ outs _ ((H_outs.out.below B_11.out).below (by go_grown)) (by omega)).mono ?_
    rintro e w12 ⟨a8, c8, rfl, o8, hb⟩
    have HB_12 := hid (bstep (by go_grown) hb : Below w11.heap.size w11 w12)
    have B_12 := hid (bstep B_11.out HB_12.out)
    have S_12 := HB_12.out.size
    have T_12_1 := hid ((HB_12.out.block w.heap.size (Array.getElem?_eq_some_iff.1 T_11_1.out).1).trans T_11_1.out)
    clear m_11_1_0 m_11_1_1 m_11_1_2 z_11_1
    have m_12_1_0 : w12.cell? ⟨w.heap.size, 0, none⟩ = some (.int .i64 lv) := by rw [cell_of_row w12 _ _ _ _ (0, 0) T_12_1.out]; rfl
    have m_12_1_1 : w12.cell? ⟨w.heap.size, 1, none⟩ = some (.int .i64 a) := by rw [cell_of_row w12 _ _ _ _ (0, 0) T_12_1.out]; rfl
    have m_12_1_2 : w12.cell? ⟨w.heap.size, 2, none⟩ = some (.int .i64 b) := by rw [cell_of_row w12 _ _ _ _ (0, 0) T_12_1.out]; rfl
    have z_12_1 : w.heap.size < w12.heap.size := (Array.getElem?_eq_some_iff.1 T_12_1.out).1
    clear hb
    have O_y2 := hid o8
    clear o8
    have O_x2_12 := hid (((((O_x2_7.out.below HB_8.out).below HB_9.out).below HB_10.out).below HB_11.out).below HB_12.out)
    go_wp2_with fail
    refine (l_eqIntS _ _ _ _ _ _ outs outs _ (O_x2_12.out.at.below (by go_grown)) (O_y2.out.at.below (by go_grown)) (by omega) (by omega)).mono ?_
    rintro e w13 ⟨rfl, hb⟩
    have HB_13 := hid (bstep (by go_grown) hb : Below w12.heap.size w12 w13)
    have B_13 := hid (bstep B_12.out HB_13.out)
    have S_13 := HB_13.out.size
    have T_13_1 := hid ((HB_13.out.block w.heap.size (Array.getElem?_eq_some_iff.1 T_12_1.out).1).trans T_12_1.out)
    clear m_12_1_0 m_12_1_1 m_12_1_2 z_12_1
    have m_13_1_0 : w13.cell? ⟨w.heap.size, 0, none⟩ = some (.int .i64 lv) := by rw [cell_of_row w13 _ _ _ _ (0, 0) T_13_1.out]; rfl
    have m_13_1_1 : w13.cell? ⟨w.heap.size, 1, none⟩ = some (.int .i64 a) := by rw [cell_of_row w13 _ _ _ _ (0, 0) T_13_1.out]; rfl
    have m_13_1_2 : w13.cell? ⟨w.heap.size, 2, none⟩ = some (.int .i64 b) := by rw [cell_of_row w13 _ _ _ _ (0, 0) T_13_1.out]; rfl
    have z_13_1 : w.heap.size < w13.heap.size := (Array.getElem?_eq_some_iff.1 T_13_1.out).1
    clear hb
    have O_x1_13 := hid (((O_x1_10.out.below HB_11.out).below HB_12.out).below HB_13.out)
    have O_x2_13 := hid (O_x2_12.out.below HB_13.out)
    have O_g0_13 := hid (((((O_g0.out.below HB_9.out).below HB_10.out).below HB_11.out).below HB_12.out).below HB_13.out)
    have O_w0_13 := hid (((((O_w0_8.out.below HB_9.out).below HB_10.out).below HB_11.out).below HB_12.out).below HB_13.out)
    go_wp2_with fail
    refine (l_markIntS _ _ _ _ ins _ _ O_x1_13.out (by omega) (by omega)).mono ?_
    rintro e w14 ⟨rfl, ho, hg⟩
    have S_14 := hg.size
    have L_14 := hid (O_x1.out).lt
    have B_14 := hid (B_13.out.grown hg B_13.out.size (fun q hq => by have := (L_14.out q hq).1; omega))
    have O_x2_14 := hid (O_x2_13.out.kept hg (ne_of_younger O_x2.out.lt O_x1.out.lt (by omega)))
    have O_g0_14 := hid (O_g0_13.out.kept hg (ne_of_younger O_g0.out.lt O_x1.out.lt (by omega)))
    have O_w0_14 := hid (O_w0_13.out.kept hg (ne_of_older O_w0.out.lt O_x1.out.lt (by omega)))
    have T_14_1 := hid ((hg.block w.heap.size (Array.getElem?_eq_some_iff.1 T_13_1.out).1 (fun e => by have := (L_14.out _ e.symm).1; omega)).trans T_13_1.out)
    have O_x1_14 := hid ho
    clear m_13_1_0 m_13_1_1 m_13_1_2 z_13_1
    have m_14_1_0 : w14.cell? ⟨w.heap.size, 0, none⟩ = some (.int .i64 lv) := by rw [cell_of_row w14 _ _ _ _ (0, 0) T_14_1.out]; rfl
    have m_14_1_1 : w14.cell? ⟨w.heap.size, 1, none⟩ = some (.int .i64 a) := by rw [cell_of_row w14 _ _ _ _ (0, 0) T_14_1.out]; rfl
    have m_14_1_2 : w14.cell? ⟨w.heap.size, 2, none⟩ = some (.int .i64 b) := by rw [cell_of_row w14 _ _ _ _ (0, 0) T_14_1.out]; rfl
    have z_14_1 : w.heap.size < w14.heap.size := (Array.getElem?_eq_some_iff.1 T_14_1.out).1
    clear ho hg
    go_wp2_with fail
    refine (l_markIntS _ _ _ _ outs _ _ O_x2_14.out (by omega) (by omega)).mono ?_
    rintro e w15 ⟨rfl, ho, hg⟩
    have S_15 := hg.size
    have L_15 := hid (O_x2.out).lt
    have B_15 := hid (B_14.out.grown hg B_14.out.size (fun q hq => by have := (L_15.out q hq).1; omega))
    have O_g0_15 := hid (O_g0_14.out.kept hg (ne_of_younger O_g0.out.lt O_x2.out.lt (by omega)))
    have O_w0_15 := hid (O_w0_14.out.kept hg (ne_of_older O_w0.out.lt O_x2.out.lt (by omega)))
    have T_15_1 := hid ((hg.block w.heap.size (Array.getElem?_eq_some_iff.1 T_14_1.out).1 (fun e => by have := (L_15.out _ e.symm).1; omega)).trans T_14_1.out)
    have O_x2_15 := hid ho
    clear m_14_1_0 m_14_1_1 m_14_1_2 z_14_1
    have m_15_1_0 : w15.cell? ⟨w.heap.size, 0, none⟩ = some (.int .i64 lv) := by rw [cell_of_row w15 _ _ _ _ (0, 0) T_15_1.out]; rfl
    have m_15_1_1 : w15.cell? ⟨w.heap.size, 1, none⟩ = some (.int .i64 a) := by rw [cell_of_row w15 _ _ _ _ (0, 0) T_15_1.out]; rfl
    have m_15_1_2 : w15.cell? ⟨w.heap.size, 2, none⟩ = some (.int .i64 b) := by rw [cell_of_row w15 _ _ _ _ (0, 0) T_15_1.out]; rfl
    have z_15_1 : w.heap.size < w15.heap.size := (Array.getElem?_eq_some_iff.1 T_15_1.out).1
    clear ho hg
    go_wp2_with fail
    refine (l_eqIntS _ _ _ _ _ _ (levelsOf a b lv ins outs m) (levelsOf a b lv ins outs m) _ (O_g0_15.out.at.below (by go_grown)) (O_w0_15.out.at.below (by go_grown)) (by omega) (by omega)).mono ?_
    rintro e w16 ⟨rfl, hb⟩
    have HB_16 := hid (bstep (by go_grown) hb : Below w15.heap.size w15 w16)
    have B_16 := hid (bstep B_15.out HB_16.out)
    have S_16 := HB_16.out.size
    have T_16_1 := hid ((HB_16.out.block w.heap.size (Array.getElem?_eq_some_iff.1 T_15_1.out).1).trans T_15_1.out)
    clear m_15_1_0 m_15_1_1 m_15_1_2 z_15_1
    have m_16_1_0 : w16.cell? ⟨w.heap.size, 0, none⟩ = some (.int .i64 lv) := by rw [cell_of_row w16 _ _ _ _ (0, 0) T_16_1.out]; rfl
    have m_16_1_1 : w16.cell? ⟨w.heap.size, 1, none⟩ = some (.int .i64 a) := by rw [cell_of_row w16 _ _ _ _ (0, 0) T_16_1.out]; rfl
    have m_16_1_2 : w16.cell? ⟨w.heap.size, 2, none⟩ = some (.int .i64 b) := by rw [cell_of_row w16 _ _ _ _ (0, 0) T_16_1.out]; rfl
    have z_16_1 : w.heap.size < w16.heap.size := (Array.getElem?_eq_some_iff.1 T_16_1.out).1
    clear hb
    have O_g0_16 := hid (O_g0_15.out.below HB_16.out)
    have O_w0_16 := hid (O_w0_15.out.below HB_16.out)
    go_wp2_with fail
    refine (l_markIntS _ _ _ _ (levelsOf a b lv ins outs m) _ _ O_g0_16.out (by omega) (by omega)).mono ?_
    rintro e w17 ⟨rfl, ho, hg⟩
    have S_17 := hg.size
    have L_17 := hid (O_g0.out).lt
    have B_17 := hid (B_16.out.grown hg B_16.out.size (fun q hq => by have := (L_17.out q hq).1; omega))
    have O_w0_17 := hid (O_w0_16.out.kept hg (ne_of_older O_w0.out.lt O_g0.out.lt (by omega)))
    have T_17_1 := hid ((hg.block w.heap.size (Array.getElem?_eq_some_iff.1 T_16_1.out).1 (fun e => by have := (L_17.out _ e.symm).1; omega)).trans T_16_1.out)
    have O_g0_17 := hid ho
    clear m_16_1_0 m_16_1_1 m_16_1_2 z_16_1
    have m_17_1_0 : w17.cell? ⟨w.heap.size, 0, none⟩ = some (.int .i64 lv) := by rw [cell_of_row w17 _ _ _ _ (0, 0) T_17_1.out]; rfl
    have m_17_1_1 : w17.cell? ⟨w.heap.size, 1, none⟩ = some (.int .i64 a) := by rw [cell_of_row w17 _ _ _ _ (0, 0) T_17_1.out]; rfl
    have m_17_1_2 : w17.cell? ⟨w.heap.size, 2, none⟩ = some (.int .i64 b) := by rw [cell_of_row w17 _ _ _ _ (0, 0) T_17_1.out]; rfl
    have z_17_1 : w.heap.size < w17.heap.size := (Array.getElem?_eq_some_iff.1 T_17_1.out).1
    clear ho hg
    go_wp2_with fail
    refine (l_heldIntS _ _ _ _ _ (O_g0_17.out.at.below (by go_grown)) (by omega) (by omega)).mono ?_
    rintro e _ ⟨rfl, rfl⟩
    go_wp2_with fail
    refine (l_toTank _ _ _ _).mono ?_
    rintro e w18 ⟨rfl, hb⟩
    have HB_18 := hid (bstep (by go_grown) hb : Below w17.heap.size w17 w18)
    have B_18 := hid (bstep B_17.out HB_18.out)
    have S_18 := HB_18.out.size
    have T_18_1 := hid ((HB_18.out.block w.heap.size (Array.getElem?_eq_some_iff.1 T_17_1.out).1).trans T_17_1.out)
    clear m_17_1_0 m_17_1_1 m_17_1_2 z_17_1
    have m_18_1_0 : w18.cell? ⟨w.heap.size, 0, none⟩ = some (.int .i64 lv) := by rw [cell_of_row w18 _ _ _ _ (0, 0) T_18_1.out]; rfl
    have m_18_1_1 : w18.cell? ⟨w.heap.size, 1, none⟩ = some (.int .i64 a) := by rw [cell_of_row w18 _ _ _ _ (0, 0) T_18_1.out]; rfl
    have m_18_1_2 : w18.cell? ⟨w.heap.size, 2, none⟩ = some (.int .i64 b) := by rw [cell_of_row w18 _ _ _ _ (0, 0) T_18_1.out]; rfl
    have z_18_1 : w.heap.size < w18.heap.size := (Array.getElem?_eq_some_iff.1 T_18_1.out).1
    clear hb
    go_wp2_with fail
    refine (l_toIntS _ _ _ ins _ ((H_ins.out.below B_18.out).below (by go_grown)) (by omega)).mono ?_
    rintro e w19 ⟨a9, c9, rfl, o9, hb⟩
    have HB_19 := hid (bstep (by go_grown) hb : Below w18.heap.size w18 w19)
    have B_19 := hid (bstep B_18.out HB_19.out)
    have S_19 := HB_19.out.size
    have T_19_1 := hid ((HB_19.out.block w.heap.size (Array.getElem?_eq_some_iff.1 T_18_1.out).1).trans T_18_1.out)
    clear m_18_1_0 m_18_1_1 m_18_1_2 z_18_1
    have m_19_1_0 : w19.cell? ⟨w.heap.size, 0, none⟩ = some (.int .i64 lv) := by rw [cell_of_row w19 _ _ _ _ (0, 0) T_19_1.out]; rfl
    have m_19_1_1 : w19.cell? ⟨w.heap.size, 1, none⟩ = some (.int .i64 a) := by rw [cell_of_row w19 _ _ _ _ (0, 0) T_19_1.out]; rfl
    have m_19_1_2 : w19.cell? ⟨w.heap.size, 2, none⟩ = some (.int .i64 b) := by rw [cell_of_row w19 _ _ _ _ (0, 0) T_19_1.out]; rfl
    have z_19_1 : w.heap.size < w19.heap.size := (Array.getElem?_eq_some_iff.1 T_19_1.out).1
    clear hb
    have O_z1 := hid o9
    clear o9
    go_wp2_with fail
    refine (l_toIntS _ _ _ outs _ ((H_outs.out.below B_19.out).below (by go_grown)) (by omega)).mono ?_
    rintro e w20 ⟨a10, c10, rfl, o10, hb⟩
    have HB_20 := hid (bstep (by go_grown) hb : Below w19.heap.size w19 w20)
    have B_20 := hid (bstep B_19.out HB_20.out)
    have S_20 := HB_20.out.size
    have T_20_1 := hid ((HB_20.out.block w.heap.size (Array.getElem?_eq_some_iff.1 T_19_1.out).1).trans T_19_1.out)
    clear m_19_1_0 m_19_1_1 m_19_1_2 z_19_1
    have m_20_1_0 : w20.cell? ⟨w.heap.size, 0, none⟩ = some (.int .i64 lv) := by rw [cell_of_row w20 _ _ _ _ (0, 0) T_20_1.out]; rfl
    have m_20_1_1 : w20.cell? ⟨w.heap.size, 1, none⟩ = some (.int .i64 a) := by rw [cell_of_row w20 _ _ _ _ (0, 0) T_20_1.out]; rfl
    have m_20_1_2 : w20.cell? ⟨w.heap.size, 2, none⟩ = some (.int .i64 b) := by rw [cell_of_row w20 _ _ _ _ (0, 0) T_20_1.out]; rfl
    have z_20_1 : w.heap.size < w20.heap.size := (Array.getElem?_eq_some_iff.1 T_20_1.out).1
    clear hb
    have O_z2 := hid o10
    clear o10
    have O_z1_20 := hid (O_z1.out.below HB_20.out)
    go_wp2_with fail
    refine (i_RunTank_yes _ _ _ _ _ _ _ _ ins outs _ (O_z1_20.out.at.below (by go_grown)) (O_z2.out.at.below (by go_grown)) HD.out).mono ?_
    rintro e w21 ⟨a11, c11, rfl, hb, o11⟩
    have HB_21 := hid (bstep (by go_grown) hb : Below w20.heap.size w20 w21)
    have B_21 := hid (bstep B_20.out HB_21.out)
    have S_21 := HB_21.out.size
    have T_21_1 := hid ((HB_21.out.block w.heap.size (Array.getElem?_eq_some_iff.1 T_20_1.out).1).trans T_20_1.out)
    clear m_20_1_0 m_20_1_1 m_20_1_2 z_20_1
    have m_21_1_0 : w21.cell? ⟨w.heap.size, 0, none⟩ = some (.int .i64 lv) := by rw [cell_of_row w21 _ _ _ _ (0, 0) T_21_1.out]; rfl
    have m_21_1_1 : w21.cell? ⟨w.heap.size, 1, none⟩ = some (.int .i64 a) := by rw [cell_of_row w21 _ _ _ _ (0, 0) T_21_1.out]; rfl
    have m_21_1_2 : w21.cell? ⟨w.heap.size, 2, none⟩ = some (.int .i64 b) := by rw [cell_of_row w21 _ _ _ _ (0, 0) T_21_1.out]; rfl
    have z_21_1 : w.heap.size < w21.heap.size := (Array.getElem?_eq_some_iff.1 T_21_1.out).1
    clear hb
    have O_h0 := hid o11
    clear o11
    have O_w0_21 := hid ((((O_w0_17.out.below HB_18.out).below HB_19.out).below HB_20.out).below HB_21.out)
    go_wp2_with fail
    refine (l_eqIntS _ _ _ _ _ _ (levelsOf a b lv ins outs m) (levelsOf a b lv ins outs m) _ (O_h0.out.at.below (by go_grown)) (O_w0_21.out.at.below (by go_grown)) (by omega) (by omega)).mono ?_
    rintro e w22 ⟨rfl, hb⟩
    have HB_22 := hid (bstep (by go_grown) hb : Below w21.heap.size w21 w22)
    have B_22 := hid (bstep B_21.out HB_22.out)
    have S_22 := HB_22.out.size
    have T_22_1 := hid ((HB_22.out.block w.heap.size (Array.getElem?_eq_some_iff.1 T_21_1.out).1).trans T_21_1.out)
    clear m_21_1_0 m_21_1_1 m_21_1_2 z_21_1
    have m_22_1_0 : w22.cell? ⟨w.heap.size, 0, none⟩ = some (.int .i64 lv) := by rw [cell_of_row w22 _ _ _ _ (0, 0) T_22_1.out]; rfl
    have m_22_1_1 : w22.cell? ⟨w.heap.size, 1, none⟩ = some (.int .i64 a) := by rw [cell_of_row w22 _ _ _ _ (0, 0) T_22_1.out]; rfl
    have m_22_1_2 : w22.cell? ⟨w.heap.size, 2, none⟩ = some (.int .i64 b) := by rw [cell_of_row w22 _ _ _ _ (0, 0) T_22_1.out]; rfl
    have z_22_1 : w.heap.size < w22.heap.size := (Array.getElem?_eq_some_iff.1 T_22_1.out).1
    clear hb
    have O_g0_22 := hid (((((O_g0_17.out.below HB_18.out).below HB_19.out).below HB_20.out).below HB_21.out).below HB_22.out)
    go_wp2_with fail
    refine (l_heldIntS _ _ _ _ _ (O_g0_22.out.at.below (by go_grown)) (by omega) (by omega)).mono ?_
    rintro e _ ⟨rfl, rfl⟩
    go_wp2
    go_ret
    exact ⟨rfl, B_22.out⟩
  · have HD := hid (show goodDay lv a b ins outs = false by simpa using hd)
    clear hd hl hl'
    go_enter Try.func11, Try.ntmps11
    go_wp2_with fail
    refine (l_toTank _ _ _ _).mono ?_
    rintro e w1 ⟨rfl, hb⟩
    have HB_1 := hid (bstep (by go_grown) hb : Below w.heap.size w w1)
    have B_1 := HB_1
    have S_1 := HB_1.out.size
    have T_1_1 : Hid (w1.heap[w.heap.size]? = some (.cells #[.int .i64 lv, .int .i64 a, .int .i64 b] 23 (0, 0))) := hid (by rw [hb.block _ (by simp <;> omega)]; exact heap_alloc_new _ _)
    have Z_1 : w.heap.size < w1.heap.size := (Array.getElem?_eq_some_iff.1 T_1_1.out).1
    have m_1_1_0 : w1.cell? ⟨w.heap.size, 0, none⟩ = some (.int .i64 lv) := by rw [cell_of_row w1 _ _ _ _ (0, 0) T_1_1.out]; rfl
    have m_1_1_1 : w1.cell? ⟨w.heap.size, 1, none⟩ = some (.int .i64 a) := by rw [cell_of_row w1 _ _ _ _ (0, 0) T_1_1.out]; rfl
    have m_1_1_2 : w1.cell? ⟨w.heap.size, 2, none⟩ = some (.int .i64 b) := by rw [cell_of_row w1 _ _ _ _ (0, 0) T_1_1.out]; rfl
    have z_1_1 : w.heap.size < w1.heap.size := (Array.getElem?_eq_some_iff.1 T_1_1.out).1
    clear hb
    go_wp2_with fail
    refine (l_toIntS _ _ _ ins _ ((H_ins.out.below B_1.out).below (by go_grown)) (by omega)).mono ?_
    rintro e w2 ⟨a1, c1, rfl, o1, hb⟩
    have HB_2 := hid (bstep (by go_grown) hb : Below w1.heap.size w1 w2)
    have B_2 := hid (bstep B_1.out HB_2.out)
    have S_2 := HB_2.out.size
    have T_2_1 := hid ((HB_2.out.block w.heap.size (Array.getElem?_eq_some_iff.1 T_1_1.out).1).trans T_1_1.out)
    clear m_1_1_0 m_1_1_1 m_1_1_2 z_1_1
    have m_2_1_0 : w2.cell? ⟨w.heap.size, 0, none⟩ = some (.int .i64 lv) := by rw [cell_of_row w2 _ _ _ _ (0, 0) T_2_1.out]; rfl
    have m_2_1_1 : w2.cell? ⟨w.heap.size, 1, none⟩ = some (.int .i64 a) := by rw [cell_of_row w2 _ _ _ _ (0, 0) T_2_1.out]; rfl
    have m_2_1_2 : w2.cell? ⟨w.heap.size, 2, none⟩ = some (.int .i64 b) := by rw [cell_of_row w2 _ _ _ _ (0, 0) T_2_1.out]; rfl
    have z_2_1 : w.heap.size < w2.heap.size := (Array.getElem?_eq_some_iff.1 T_2_1.out).1
    clear hb
    have O_s1 := hid o1
    clear o1
    go_wp2_with fail
    refine (l_toIntS _ _ _ outs _ ((H_outs.out.below B_2.out).below (by go_grown)) (by omega)).mono ?_
    rintro e w3 ⟨a2, c2, rfl, o2, hb⟩
    have HB_3 := hid (bstep (by go_grown) hb : Below w2.heap.size w2 w3)
    have B_3 := hid (bstep B_2.out HB_3.out)
    have S_3 := HB_3.out.size
    have T_3_1 := hid ((HB_3.out.block w.heap.size (Array.getElem?_eq_some_iff.1 T_2_1.out).1).trans T_2_1.out)
    clear m_2_1_0 m_2_1_1 m_2_1_2 z_2_1
    have m_3_1_0 : w3.cell? ⟨w.heap.size, 0, none⟩ = some (.int .i64 lv) := by rw [cell_of_row w3 _ _ _ _ (0, 0) T_3_1.out]; rfl
    have m_3_1_1 : w3.cell? ⟨w.heap.size, 1, none⟩ = some (.int .i64 a) := by rw [cell_of_row w3 _ _ _ _ (0, 0) T_3_1.out]; rfl
    have m_3_1_2 : w3.cell? ⟨w.heap.size, 2, none⟩ = some (.int .i64 b) := by rw [cell_of_row w3 _ _ _ _ (0, 0) T_3_1.out]; rfl
    have z_3_1 : w.heap.size < w3.heap.size := (Array.getElem?_eq_some_iff.1 T_3_1.out).1
    clear hb
    have O_s2 := hid o2
    clear o2
    have O_s1_3 := hid (O_s1.out.below HB_3.out)
    go_wp2_with fail
    refine (s_RunTank_no _ _ _ _ _ _ _ _ _ ins outs _ (O_s1_3.out.at.below (by go_grown)) (O_s2.out.at.below (by go_grown)) (by omega) (by omega) HD.out).mono ?_
    rintro e w4 ⟨a3, c3, rfl, hb, o3⟩
    have HB_4 := hid (bstep (by go_grown) hb : Below w3.heap.size w3 w4)
    have B_4 := hid (bstep B_3.out HB_4.out)
    have S_4 := HB_4.out.size
    have T_4_1 := hid ((HB_4.out.block w.heap.size (Array.getElem?_eq_some_iff.1 T_3_1.out).1).trans T_3_1.out)
    clear m_3_1_0 m_3_1_1 m_3_1_2 z_3_1
    have m_4_1_0 : w4.cell? ⟨w.heap.size, 0, none⟩ = some (.int .i64 lv) := by rw [cell_of_row w4 _ _ _ _ (0, 0) T_4_1.out]; rfl
    have m_4_1_1 : w4.cell? ⟨w.heap.size, 1, none⟩ = some (.int .i64 a) := by rw [cell_of_row w4 _ _ _ _ (0, 0) T_4_1.out]; rfl
    have m_4_1_2 : w4.cell? ⟨w.heap.size, 2, none⟩ = some (.int .i64 b) := by rw [cell_of_row w4 _ _ _ _ (0, 0) T_4_1.out]; rfl
    have z_4_1 : w.heap.size < w4.heap.size := (Array.getElem?_eq_some_iff.1 T_4_1.out).1
    clear hb
    have O_w0 := hid o3
    clear o3
    go_wp2_with fail
    refine (l_toIntS _ _ _ ins _ ((H_ins.out.below B_4.out).below (by go_grown)) (by omega)).mono ?_
    rintro e w5 ⟨a4, c4, rfl, o4, hb⟩
    have HB_5 := hid (bstep (by go_grown) hb : Below w4.heap.size w4 w5)
    have B_5 := hid (bstep B_4.out HB_5.out)
    have S_5 := HB_5.out.size
    have T_5_1 := hid ((HB_5.out.block w.heap.size (Array.getElem?_eq_some_iff.1 T_4_1.out).1).trans T_4_1.out)
    clear m_4_1_0 m_4_1_1 m_4_1_2 z_4_1
    have m_5_1_0 : w5.cell? ⟨w.heap.size, 0, none⟩ = some (.int .i64 lv) := by rw [cell_of_row w5 _ _ _ _ (0, 0) T_5_1.out]; rfl
    have m_5_1_1 : w5.cell? ⟨w.heap.size, 1, none⟩ = some (.int .i64 a) := by rw [cell_of_row w5 _ _ _ _ (0, 0) T_5_1.out]; rfl
    have m_5_1_2 : w5.cell? ⟨w.heap.size, 2, none⟩ = some (.int .i64 b) := by rw [cell_of_row w5 _ _ _ _ (0, 0) T_5_1.out]; rfl
    have z_5_1 : w.heap.size < w5.heap.size := (Array.getElem?_eq_some_iff.1 T_5_1.out).1
    clear hb
    have O_x1 := hid o4
    clear o4
    go_wp2_with fail
    refine (l_toIntS _ _ _ outs _ ((H_outs.out.below B_5.out).below (by go_grown)) (by omega)).mono ?_
    rintro e w6 ⟨a5, c5, rfl, o5, hb⟩
    have HB_6 := hid (bstep (by go_grown) hb : Below w5.heap.size w5 w6)
    have B_6 := hid (bstep B_5.out HB_6.out)
    have S_6 := HB_6.out.size
    have T_6_1 := hid ((HB_6.out.block w.heap.size (Array.getElem?_eq_some_iff.1 T_5_1.out).1).trans T_5_1.out)
    clear m_5_1_0 m_5_1_1 m_5_1_2 z_5_1
    have m_6_1_0 : w6.cell? ⟨w.heap.size, 0, none⟩ = some (.int .i64 lv) := by rw [cell_of_row w6 _ _ _ _ (0, 0) T_6_1.out]; rfl
    have m_6_1_1 : w6.cell? ⟨w.heap.size, 1, none⟩ = some (.int .i64 a) := by rw [cell_of_row w6 _ _ _ _ (0, 0) T_6_1.out]; rfl
    have m_6_1_2 : w6.cell? ⟨w.heap.size, 2, none⟩ = some (.int .i64 b) := by rw [cell_of_row w6 _ _ _ _ (0, 0) T_6_1.out]; rfl
    have z_6_1 : w.heap.size < w6.heap.size := (Array.getElem?_eq_some_iff.1 T_6_1.out).1
    clear hb
    have O_x2 := hid o5
    clear o5
    go_wp2_with fail
    refine (l_toTank _ _ _ _).mono ?_
    rintro e w7 ⟨rfl, hb⟩
    have HB_7 := hid (bstep (by go_grown) hb : Below w6.heap.size w6 w7)
    have B_7 := hid (bstep B_6.out HB_7.out)
    have S_7 := HB_7.out.size
    have T_7_1 := hid ((HB_7.out.block w.heap.size (Array.getElem?_eq_some_iff.1 T_6_1.out).1).trans T_6_1.out)
    clear m_6_1_0 m_6_1_1 m_6_1_2 z_6_1
    have m_7_1_0 : w7.cell? ⟨w.heap.size, 0, none⟩ = some (.int .i64 lv) := by rw [cell_of_row w7 _ _ _ _ (0, 0) T_7_1.out]; rfl
    have m_7_1_1 : w7.cell? ⟨w.heap.size, 1, none⟩ = some (.int .i64 a) := by rw [cell_of_row w7 _ _ _ _ (0, 0) T_7_1.out]; rfl
    have m_7_1_2 : w7.cell? ⟨w.heap.size, 2, none⟩ = some (.int .i64 b) := by rw [cell_of_row w7 _ _ _ _ (0, 0) T_7_1.out]; rfl
    have z_7_1 : w.heap.size < w7.heap.size := (Array.getElem?_eq_some_iff.1 T_7_1.out).1
    clear hb
    have O_x1_7 := hid ((O_x1.out.below HB_6.out).below HB_7.out)
    have O_x2_7 := hid (O_x2.out.below HB_7.out)
    go_wp2_with fail
    refine (i_RunTank_none _ _ _ _ _ _ _ _ _ ins outs _ (O_x1_7.out.at.below (by go_grown)) (O_x2_7.out.at.below (by go_grown)) (by omega) (by omega) HD.out).mono ?_
    rintro e w8 ⟨a6, c6, rfl, hb, o6⟩
    have HB_8 := hid (bstep (by go_grown) hb : Below w7.heap.size w7 w8)
    have B_8 := hid (bstep B_7.out HB_8.out)
    have S_8 := HB_8.out.size
    have T_8_1 := hid ((HB_8.out.block w.heap.size (Array.getElem?_eq_some_iff.1 T_7_1.out).1).trans T_7_1.out)
    clear m_7_1_0 m_7_1_1 m_7_1_2 z_7_1
    have m_8_1_0 : w8.cell? ⟨w.heap.size, 0, none⟩ = some (.int .i64 lv) := by rw [cell_of_row w8 _ _ _ _ (0, 0) T_8_1.out]; rfl
    have m_8_1_1 : w8.cell? ⟨w.heap.size, 1, none⟩ = some (.int .i64 a) := by rw [cell_of_row w8 _ _ _ _ (0, 0) T_8_1.out]; rfl
    have m_8_1_2 : w8.cell? ⟨w.heap.size, 2, none⟩ = some (.int .i64 b) := by rw [cell_of_row w8 _ _ _ _ (0, 0) T_8_1.out]; rfl
    have z_8_1 : w.heap.size < w8.heap.size := (Array.getElem?_eq_some_iff.1 T_8_1.out).1
    clear hb
    have O_g0 := hid o6
    clear o6
    have O_w0_8 := hid ((((O_w0.out.below HB_5.out).below HB_6.out).below HB_7.out).below HB_8.out)
    go_wp2_with fail
    refine (l_eqIntS _ _ _ _ _ _ [] [] _ (O_g0.out.at.below (by go_grown)) (O_w0_8.out.at.below (by go_grown)) (by omega) (by omega)).mono ?_
    rintro e w9 ⟨rfl, hb⟩
    have HB_9 := hid (bstep (by go_grown) hb : Below w8.heap.size w8 w9)
    have B_9 := hid (bstep B_8.out HB_9.out)
    have S_9 := HB_9.out.size
    have T_9_1 := hid ((HB_9.out.block w.heap.size (Array.getElem?_eq_some_iff.1 T_8_1.out).1).trans T_8_1.out)
    clear m_8_1_0 m_8_1_1 m_8_1_2 z_8_1
    have m_9_1_0 : w9.cell? ⟨w.heap.size, 0, none⟩ = some (.int .i64 lv) := by rw [cell_of_row w9 _ _ _ _ (0, 0) T_9_1.out]; rfl
    have m_9_1_1 : w9.cell? ⟨w.heap.size, 1, none⟩ = some (.int .i64 a) := by rw [cell_of_row w9 _ _ _ _ (0, 0) T_9_1.out]; rfl
    have m_9_1_2 : w9.cell? ⟨w.heap.size, 2, none⟩ = some (.int .i64 b) := by rw [cell_of_row w9 _ _ _ _ (0, 0) T_9_1.out]; rfl
    have z_9_1 : w.heap.size < w9.heap.size := (Array.getElem?_eq_some_iff.1 T_9_1.out).1
    clear hb
    go_wp2_with fail
    refine (l_toIntS _ _ _ ins _ ((H_ins.out.below B_9.out).below (by go_grown)) (by omega)).mono ?_
    rintro e w10 ⟨a7, c7, rfl, o7, hb⟩
    have HB_10 := hid (bstep (by go_grown) hb : Below w9.heap.size w9 w10)
    have B_10 := hid (bstep B_9.out HB_10.out)
    have S_10 := HB_10.out.size
    have T_10_1 := hid ((HB_10.out.block w.heap.size (Array.getElem?_eq_some_iff.1 T_9_1.out).1).trans T_9_1.out)
    clear m_9_1_0 m_9_1_1 m_9_1_2 z_9_1
    have m_10_1_0 : w10.cell? ⟨w.heap.size, 0, none⟩ = some (.int .i64 lv) := by rw [cell_of_row w10 _ _ _ _ (0, 0) T_10_1.out]; rfl
    have m_10_1_1 : w10.cell? ⟨w.heap.size, 1, none⟩ = some (.int .i64 a) := by rw [cell_of_row w10 _ _ _ _ (0, 0) T_10_1.out]; rfl
    have m_10_1_2 : w10.cell? ⟨w.heap.size, 2, none⟩ = some (.int .i64 b) := by rw [cell_of_row w10 _ _ _ _ (0, 0) T_10_1.out]; rfl
    have z_10_1 : w.heap.size < w10.heap.size := (Array.getElem?_eq_some_iff.1 T_10_1.out).1
    clear hb
    have O_y1 := hid o7
    clear o7
    have O_x1_10 := hid (((O_x1_7.out.below HB_8.out).below HB_9.out).below HB_10.out)
    go_wp2_with fail
    refine (l_eqIntS _ _ _ _ _ _ ins ins _ (O_x1_10.out.at.below (by go_grown)) (O_y1.out.at.below (by go_grown)) (by omega) (by omega)).mono ?_
    rintro e w11 ⟨rfl, hb⟩
    have HB_11 := hid (bstep (by go_grown) hb : Below w10.heap.size w10 w11)
    have B_11 := hid (bstep B_10.out HB_11.out)
    have S_11 := HB_11.out.size
    have T_11_1 := hid ((HB_11.out.block w.heap.size (Array.getElem?_eq_some_iff.1 T_10_1.out).1).trans T_10_1.out)
    clear m_10_1_0 m_10_1_1 m_10_1_2 z_10_1
    have m_11_1_0 : w11.cell? ⟨w.heap.size, 0, none⟩ = some (.int .i64 lv) := by rw [cell_of_row w11 _ _ _ _ (0, 0) T_11_1.out]; rfl
    have m_11_1_1 : w11.cell? ⟨w.heap.size, 1, none⟩ = some (.int .i64 a) := by rw [cell_of_row w11 _ _ _ _ (0, 0) T_11_1.out]; rfl
    have m_11_1_2 : w11.cell? ⟨w.heap.size, 2, none⟩ = some (.int .i64 b) := by rw [cell_of_row w11 _ _ _ _ (0, 0) T_11_1.out]; rfl
    have z_11_1 : w.heap.size < w11.heap.size := (Array.getElem?_eq_some_iff.1 T_11_1.out).1
    clear hb
    go_wp2_with fail
    refine (l_toIntS _ _ _ outs _ ((H_outs.out.below B_11.out).below (by go_grown)) (by omega)).mono ?_
    rintro e w12 ⟨a8, c8, rfl, o8, hb⟩
    have HB_12 := hid (bstep (by go_grown) hb : Below w11.heap.size w11 w12)
    have B_12 := hid (bstep B_11.out HB_12.out)
    have S_12 := HB_12.out.size
    have T_12_1 := hid ((HB_12.out.block w.heap.size (Array.getElem?_eq_some_iff.1 T_11_1.out).1).trans T_11_1.out)
    clear m_11_1_0 m_11_1_1 m_11_1_2 z_11_1
    have m_12_1_0 : w12.cell? ⟨w.heap.size, 0, none⟩ = some (.int .i64 lv) := by rw [cell_of_row w12 _ _ _ _ (0, 0) T_12_1.out]; rfl
    have m_12_1_1 : w12.cell? ⟨w.heap.size, 1, none⟩ = some (.int .i64 a) := by rw [cell_of_row w12 _ _ _ _ (0, 0) T_12_1.out]; rfl
    have m_12_1_2 : w12.cell? ⟨w.heap.size, 2, none⟩ = some (.int .i64 b) := by rw [cell_of_row w12 _ _ _ _ (0, 0) T_12_1.out]; rfl
    have z_12_1 : w.heap.size < w12.heap.size := (Array.getElem?_eq_some_iff.1 T_12_1.out).1
    clear hb
    have O_y2 := hid o8
    clear o8
    have O_x2_12 := hid (((((O_x2_7.out.below HB_8.out).below HB_9.out).below HB_10.out).below HB_11.out).below HB_12.out)
    go_wp2_with fail
    refine (l_eqIntS _ _ _ _ _ _ outs outs _ (O_x2_12.out.at.below (by go_grown)) (O_y2.out.at.below (by go_grown)) (by omega) (by omega)).mono ?_
    rintro e w13 ⟨rfl, hb⟩
    have HB_13 := hid (bstep (by go_grown) hb : Below w12.heap.size w12 w13)
    have B_13 := hid (bstep B_12.out HB_13.out)
    have S_13 := HB_13.out.size
    have T_13_1 := hid ((HB_13.out.block w.heap.size (Array.getElem?_eq_some_iff.1 T_12_1.out).1).trans T_12_1.out)
    clear m_12_1_0 m_12_1_1 m_12_1_2 z_12_1
    have m_13_1_0 : w13.cell? ⟨w.heap.size, 0, none⟩ = some (.int .i64 lv) := by rw [cell_of_row w13 _ _ _ _ (0, 0) T_13_1.out]; rfl
    have m_13_1_1 : w13.cell? ⟨w.heap.size, 1, none⟩ = some (.int .i64 a) := by rw [cell_of_row w13 _ _ _ _ (0, 0) T_13_1.out]; rfl
    have m_13_1_2 : w13.cell? ⟨w.heap.size, 2, none⟩ = some (.int .i64 b) := by rw [cell_of_row w13 _ _ _ _ (0, 0) T_13_1.out]; rfl
    have z_13_1 : w.heap.size < w13.heap.size := (Array.getElem?_eq_some_iff.1 T_13_1.out).1
    clear hb
    have O_x1_13 := hid (((O_x1_10.out.below HB_11.out).below HB_12.out).below HB_13.out)
    have O_x2_13 := hid (O_x2_12.out.below HB_13.out)
    have O_g0_13 := hid (((((O_g0.out.below HB_9.out).below HB_10.out).below HB_11.out).below HB_12.out).below HB_13.out)
    have O_w0_13 := hid (((((O_w0_8.out.below HB_9.out).below HB_10.out).below HB_11.out).below HB_12.out).below HB_13.out)
    go_wp2_with fail
    refine (l_markIntS _ _ _ _ ins _ _ O_x1_13.out (by omega) (by omega)).mono ?_
    rintro e w14 ⟨rfl, ho, hg⟩
    have S_14 := hg.size
    have L_14 := hid (O_x1.out).lt
    have B_14 := hid (B_13.out.grown hg B_13.out.size (fun q hq => by have := (L_14.out q hq).1; omega))
    have O_x2_14 := hid (O_x2_13.out.kept hg (ne_of_younger O_x2.out.lt O_x1.out.lt (by omega)))
    have O_g0_14 := hid (O_g0_13.out.kept hg (ne_of_younger O_g0.out.lt O_x1.out.lt (by omega)))
    have O_w0_14 := hid (O_w0_13.out.kept hg (ne_of_older O_w0.out.lt O_x1.out.lt (by omega)))
    have T_14_1 := hid ((hg.block w.heap.size (Array.getElem?_eq_some_iff.1 T_13_1.out).1 (fun e => by have := (L_14.out _ e.symm).1; omega)).trans T_13_1.out)
    have O_x1_14 := hid ho
    clear m_13_1_0 m_13_1_1 m_13_1_2 z_13_1
    have m_14_1_0 : w14.cell? ⟨w.heap.size, 0, none⟩ = some (.int .i64 lv) := by rw [cell_of_row w14 _ _ _ _ (0, 0) T_14_1.out]; rfl
    have m_14_1_1 : w14.cell? ⟨w.heap.size, 1, none⟩ = some (.int .i64 a) := by rw [cell_of_row w14 _ _ _ _ (0, 0) T_14_1.out]; rfl
    have m_14_1_2 : w14.cell? ⟨w.heap.size, 2, none⟩ = some (.int .i64 b) := by rw [cell_of_row w14 _ _ _ _ (0, 0) T_14_1.out]; rfl
    have z_14_1 : w.heap.size < w14.heap.size := (Array.getElem?_eq_some_iff.1 T_14_1.out).1
    clear ho hg
    go_wp2_with fail
    refine (l_markIntS _ _ _ _ outs _ _ O_x2_14.out (by omega) (by omega)).mono ?_
    rintro e w15 ⟨rfl, ho, hg⟩
    have S_15 := hg.size
    have L_15 := hid (O_x2.out).lt
    have B_15 := hid (B_14.out.grown hg B_14.out.size (fun q hq => by have := (L_15.out q hq).1; omega))
    have O_g0_15 := hid (O_g0_14.out.kept hg (ne_of_younger O_g0.out.lt O_x2.out.lt (by omega)))
    have O_w0_15 := hid (O_w0_14.out.kept hg (ne_of_older O_w0.out.lt O_x2.out.lt (by omega)))
    have T_15_1 := hid ((hg.block w.heap.size (Array.getElem?_eq_some_iff.1 T_14_1.out).1 (fun e => by have := (L_15.out _ e.symm).1; omega)).trans T_14_1.out)
    have O_x2_15 := hid ho
    clear m_14_1_0 m_14_1_1 m_14_1_2 z_14_1
    have m_15_1_0 : w15.cell? ⟨w.heap.size, 0, none⟩ = some (.int .i64 lv) := by rw [cell_of_row w15 _ _ _ _ (0, 0) T_15_1.out]; rfl
    have m_15_1_1 : w15.cell? ⟨w.heap.size, 1, none⟩ = some (.int .i64 a) := by rw [cell_of_row w15 _ _ _ _ (0, 0) T_15_1.out]; rfl
    have m_15_1_2 : w15.cell? ⟨w.heap.size, 2, none⟩ = some (.int .i64 b) := by rw [cell_of_row w15 _ _ _ _ (0, 0) T_15_1.out]; rfl
    have z_15_1 : w.heap.size < w15.heap.size := (Array.getElem?_eq_some_iff.1 T_15_1.out).1
    clear ho hg
    go_wp2_with fail
    refine (l_eqIntS _ _ _ _ _ _ [] [] _ (O_g0_15.out.at.below (by go_grown)) (O_w0_15.out.at.below (by go_grown)) (by omega) (by omega)).mono ?_
    rintro e w16 ⟨rfl, hb⟩
    have HB_16 := hid (bstep (by go_grown) hb : Below w15.heap.size w15 w16)
    have B_16 := hid (bstep B_15.out HB_16.out)
    have S_16 := HB_16.out.size
    have T_16_1 := hid ((HB_16.out.block w.heap.size (Array.getElem?_eq_some_iff.1 T_15_1.out).1).trans T_15_1.out)
    clear m_15_1_0 m_15_1_1 m_15_1_2 z_15_1
    have m_16_1_0 : w16.cell? ⟨w.heap.size, 0, none⟩ = some (.int .i64 lv) := by rw [cell_of_row w16 _ _ _ _ (0, 0) T_16_1.out]; rfl
    have m_16_1_1 : w16.cell? ⟨w.heap.size, 1, none⟩ = some (.int .i64 a) := by rw [cell_of_row w16 _ _ _ _ (0, 0) T_16_1.out]; rfl
    have m_16_1_2 : w16.cell? ⟨w.heap.size, 2, none⟩ = some (.int .i64 b) := by rw [cell_of_row w16 _ _ _ _ (0, 0) T_16_1.out]; rfl
    have z_16_1 : w.heap.size < w16.heap.size := (Array.getElem?_eq_some_iff.1 T_16_1.out).1
    clear hb
    have O_g0_16 := hid (O_g0_15.out.below HB_16.out)
    have O_w0_16 := hid (O_w0_15.out.below HB_16.out)
    go_wp2_with fail
    refine (l_markIntS _ _ _ _ [] _ _ O_g0_16.out (by omega) (by omega)).mono ?_
    rintro e w17 ⟨rfl, ho, hg⟩
    have S_17 := hg.size
    have L_17 := hid (O_g0.out).lt
    have B_17 := hid (B_16.out.grown hg B_16.out.size (fun q hq => by have := (L_17.out q hq).1; omega))
    have O_w0_17 := hid (O_w0_16.out.kept hg (ne_of_older O_w0.out.lt O_g0.out.lt (by omega)))
    have T_17_1 := hid ((hg.block w.heap.size (Array.getElem?_eq_some_iff.1 T_16_1.out).1 (fun e => by have := (L_17.out _ e.symm).1; omega)).trans T_16_1.out)
    have O_g0_17 := hid ho
    clear m_16_1_0 m_16_1_1 m_16_1_2 z_16_1
    have m_17_1_0 : w17.cell? ⟨w.heap.size, 0, none⟩ = some (.int .i64 lv) := by rw [cell_of_row w17 _ _ _ _ (0, 0) T_17_1.out]; rfl
    have m_17_1_1 : w17.cell? ⟨w.heap.size, 1, none⟩ = some (.int .i64 a) := by rw [cell_of_row w17 _ _ _ _ (0, 0) T_17_1.out]; rfl
    have m_17_1_2 : w17.cell? ⟨w.heap.size, 2, none⟩ = some (.int .i64 b) := by rw [cell_of_row w17 _ _ _ _ (0, 0) T_17_1.out]; rfl
    have z_17_1 : w.heap.size < w17.heap.size := (Array.getElem?_eq_some_iff.1 T_17_1.out).1
    clear ho hg
    go_wp2_with fail
    refine (l_heldIntS _ _ _ _ _ (O_g0_17.out.at.below (by go_grown)) (by omega) (by omega)).mono ?_
    rintro e _ ⟨rfl, rfl⟩
    go_wp2_with fail
    refine (l_toTank _ _ _ _).mono ?_
    rintro e w18 ⟨rfl, hb⟩
    have HB_18 := hid (bstep (by go_grown) hb : Below w17.heap.size w17 w18)
    have B_18 := hid (bstep B_17.out HB_18.out)
    have S_18 := HB_18.out.size
    have T_18_1 := hid ((HB_18.out.block w.heap.size (Array.getElem?_eq_some_iff.1 T_17_1.out).1).trans T_17_1.out)
    clear m_17_1_0 m_17_1_1 m_17_1_2 z_17_1
    have m_18_1_0 : w18.cell? ⟨w.heap.size, 0, none⟩ = some (.int .i64 lv) := by rw [cell_of_row w18 _ _ _ _ (0, 0) T_18_1.out]; rfl
    have m_18_1_1 : w18.cell? ⟨w.heap.size, 1, none⟩ = some (.int .i64 a) := by rw [cell_of_row w18 _ _ _ _ (0, 0) T_18_1.out]; rfl
    have m_18_1_2 : w18.cell? ⟨w.heap.size, 2, none⟩ = some (.int .i64 b) := by rw [cell_of_row w18 _ _ _ _ (0, 0) T_18_1.out]; rfl
    have z_18_1 : w.heap.size < w18.heap.size := (Array.getElem?_eq_some_iff.1 T_18_1.out).1
    clear hb
    go_wp2_with fail
    refine (l_toIntS _ _ _ ins _ ((H_ins.out.below B_18.out).below (by go_grown)) (by omega)).mono ?_
    rintro e w19 ⟨a9, c9, rfl, o9, hb⟩
    have HB_19 := hid (bstep (by go_grown) hb : Below w18.heap.size w18 w19)
    have B_19 := hid (bstep B_18.out HB_19.out)
    have S_19 := HB_19.out.size
    have T_19_1 := hid ((HB_19.out.block w.heap.size (Array.getElem?_eq_some_iff.1 T_18_1.out).1).trans T_18_1.out)
    clear m_18_1_0 m_18_1_1 m_18_1_2 z_18_1
    have m_19_1_0 : w19.cell? ⟨w.heap.size, 0, none⟩ = some (.int .i64 lv) := by rw [cell_of_row w19 _ _ _ _ (0, 0) T_19_1.out]; rfl
    have m_19_1_1 : w19.cell? ⟨w.heap.size, 1, none⟩ = some (.int .i64 a) := by rw [cell_of_row w19 _ _ _ _ (0, 0) T_19_1.out]; rfl
    have m_19_1_2 : w19.cell? ⟨w.heap.size, 2, none⟩ = some (.int .i64 b) := by rw [cell_of_row w19 _ _ _ _ (0, 0) T_19_1.out]; rfl
    have z_19_1 : w.heap.size < w19.heap.size := (Array.getElem?_eq_some_iff.1 T_19_1.out).1
    clear hb
    have O_z1 := hid o9
    clear o9
    go_wp2_with fail
    refine (l_toIntS _ _ _ outs _ ((H_outs.out.below B_19.out).below (by go_grown)) (by omega)).mono ?_
    rintro e w20 ⟨a10, c10, rfl, o10, hb⟩
    have HB_20 := hid (bstep (by go_grown) hb : Below w19.heap.size w19 w20)
    have B_20 := hid (bstep B_19.out HB_20.out)
    have S_20 := HB_20.out.size
    have T_20_1 := hid ((HB_20.out.block w.heap.size (Array.getElem?_eq_some_iff.1 T_19_1.out).1).trans T_19_1.out)
    clear m_19_1_0 m_19_1_1 m_19_1_2 z_19_1
    have m_20_1_0 : w20.cell? ⟨w.heap.size, 0, none⟩ = some (.int .i64 lv) := by rw [cell_of_row w20 _ _ _ _ (0, 0) T_20_1.out]; rfl
    have m_20_1_1 : w20.cell? ⟨w.heap.size, 1, none⟩ = some (.int .i64 a) := by rw [cell_of_row w20 _ _ _ _ (0, 0) T_20_1.out]; rfl
    have m_20_1_2 : w20.cell? ⟨w.heap.size, 2, none⟩ = some (.int .i64 b) := by rw [cell_of_row w20 _ _ _ _ (0, 0) T_20_1.out]; rfl
    have z_20_1 : w.heap.size < w20.heap.size := (Array.getElem?_eq_some_iff.1 T_20_1.out).1
    clear hb
    have O_z2 := hid o10
    clear o10
    have O_z1_20 := hid (O_z1.out.below HB_20.out)
    go_wp2_with fail
    refine (i_RunTank_none _ _ _ _ _ _ _ _ _ ins outs _ (O_z1_20.out.at.below (by go_grown)) (O_z2.out.at.below (by go_grown)) (by omega) (by omega) HD.out).mono ?_
    rintro e w21 ⟨a11, c11, rfl, hb, o11⟩
    have HB_21 := hid (bstep (by go_grown) hb : Below w20.heap.size w20 w21)
    have B_21 := hid (bstep B_20.out HB_21.out)
    have S_21 := HB_21.out.size
    have T_21_1 := hid ((HB_21.out.block w.heap.size (Array.getElem?_eq_some_iff.1 T_20_1.out).1).trans T_20_1.out)
    clear m_20_1_0 m_20_1_1 m_20_1_2 z_20_1
    have m_21_1_0 : w21.cell? ⟨w.heap.size, 0, none⟩ = some (.int .i64 lv) := by rw [cell_of_row w21 _ _ _ _ (0, 0) T_21_1.out]; rfl
    have m_21_1_1 : w21.cell? ⟨w.heap.size, 1, none⟩ = some (.int .i64 a) := by rw [cell_of_row w21 _ _ _ _ (0, 0) T_21_1.out]; rfl
    have m_21_1_2 : w21.cell? ⟨w.heap.size, 2, none⟩ = some (.int .i64 b) := by rw [cell_of_row w21 _ _ _ _ (0, 0) T_21_1.out]; rfl
    have z_21_1 : w.heap.size < w21.heap.size := (Array.getElem?_eq_some_iff.1 T_21_1.out).1
    clear hb
    have O_h0 := hid o11
    clear o11
    have O_w0_21 := hid ((((O_w0_17.out.below HB_18.out).below HB_19.out).below HB_20.out).below HB_21.out)
    go_wp2_with fail
    refine (l_eqIntS _ _ _ _ _ _ [] [] _ (O_h0.out.at.below (by go_grown)) (O_w0_21.out.at.below (by go_grown)) (by omega) (by omega)).mono ?_
    rintro e w22 ⟨rfl, hb⟩
    have HB_22 := hid (bstep (by go_grown) hb : Below w21.heap.size w21 w22)
    have B_22 := hid (bstep B_21.out HB_22.out)
    have S_22 := HB_22.out.size
    have T_22_1 := hid ((HB_22.out.block w.heap.size (Array.getElem?_eq_some_iff.1 T_21_1.out).1).trans T_21_1.out)
    clear m_21_1_0 m_21_1_1 m_21_1_2 z_21_1
    have m_22_1_0 : w22.cell? ⟨w.heap.size, 0, none⟩ = some (.int .i64 lv) := by rw [cell_of_row w22 _ _ _ _ (0, 0) T_22_1.out]; rfl
    have m_22_1_1 : w22.cell? ⟨w.heap.size, 1, none⟩ = some (.int .i64 a) := by rw [cell_of_row w22 _ _ _ _ (0, 0) T_22_1.out]; rfl
    have m_22_1_2 : w22.cell? ⟨w.heap.size, 2, none⟩ = some (.int .i64 b) := by rw [cell_of_row w22 _ _ _ _ (0, 0) T_22_1.out]; rfl
    have z_22_1 : w.heap.size < w22.heap.size := (Array.getElem?_eq_some_iff.1 T_22_1.out).1
    clear hb
    have O_g0_22 := hid (((((O_g0_17.out.below HB_18.out).below HB_19.out).below HB_20.out).below HB_21.out).below HB_22.out)
    go_wp2_with fail
    refine (l_heldIntS _ _ _ _ _ (O_g0_22.out.at.below (by go_grown)) (by omega) (by omega)).mono ?_
    rintro e _ ⟨rfl, rfl⟩
    go_wp2
    go_ret
    exact ⟨rfl, B_22.out⟩

set_option maxRecDepth 100000 in
theorem fnExactRunTank_lifted (os : Os) (started : os.Started) (H : Type) (enc : TypeId × Value → H) :
    ReturnsInHanded {} Try.checked os 11 .any (Rows.fnExactRunTankSpec.pre6 enc Try.prog Try.f11 Rows.fnExactRunTankRow.domain false) (Rows.fnExactRunTankSpec.post enc Try.prog Try.f11 false true false false) := by
  refine returnsInHanded_of_change (C := Try.checked) Try.own started (by kernel_rfl) Try.func11
    (ChangeSpec.witness6 (enc := enc) (C := Try.checked) false ⟨#[], #[.agg #[.int .i64 0, .int .i64 0, .int .i64 0], .slice none 0 0, .slice none 0 0], []⟩ 8 (by kernel_rfl) (by kernel_rfl) (by kernel_rfl) (by kernel_rfl)) ?_
  intro W base args ds gs before hval0 hW _ _
  have hval : ∀ (j : Nat) t v, Try.f11.params[j]? = some t → args[j]? = some v → Value.okWide Try.prog W .any base t v := hval0
  have hW' : DataW.Whole enc Try.prog Try.f11.params.toList Rows.fnExactRunTankSpec.vars false W args.toList ds gs before := hW
  obtain ⟨p, q, hA0, hV, rfl, hfz, hnd⟩ := hW
  have hlt : ∀ x ∈ p, x.block < W.heap.size := fun x hx => hW'.lt x (by simp [hx])
  have hA : DataW.TrodAll enc Try.prog W 0 (fun _ => true) true Try.f11.params.toList args.toList ds p := hA0
  rw [Try.params11] at hA hval
  clear hA0 hval0
  obtain ⟨v0, v1, v2, d0, d1, d2, p0, p1, p2, rfl, rfl, rfl, h0, h1, h2⟩ := trodAll_three hA
  obtain ⟨rfl, rfl⟩ := trodVars_none hV
  obtain ⟨x1, n1, k1, l1, rfl, g1, b1⟩ := open_ints_at (hval 1 32 v1 rfl rfl) h1
  obtain ⟨x2, n2, k2, l2, rfl, g2, b2⟩ := open_ints_at (hval 2 32 v2 rfl rfl) h2
  obtain ⟨c0, c1, c2, y0, y1, y2, m, rfl, rfl, rfl, hy0, hy1, hy2⟩ := open_agg3 Try.underlying23 (by kernel_rfl) Try.cellsTank (hval 0 23 v0 rfl rfl) h0
  obtain ⟨t0, e0, _, wt0⟩ := DataW.trod_int Try.underlying3 hy0
  obtain ⟨t1, e1, _, wt1⟩ := DataW.trod_int Try.underlying3 hy1
  obtain ⟨t2, e2, _, wt2⟩ := DataW.trod_int Try.underlying3 hy2
  simp at e0 e1 e2
  subst e0 e1 e2
  refine (law_RunTank t0 t1 t2 x1 x2 n1 n2 k1 k2 l1 l2 W g1 g2).mono fun e W' ⟨he, hb⟩ => ?_
  subst he
  exact ⟨_, rfl, law_post rfl rfl (by kernel_rfl) hW' rfl rfl rfl hb⟩

theorem fnExactRunTank_proved : Rows.FnExactRunTankSaid :=
  OpenClaim.holds_of_wide 11 Try.f11 rfl rfl rfl rfl rfl rfl rfl ⟨rfl, rfl, rfl, rfl, rfl⟩ rfl rfl rfl rfl rfl (by kernel_rfl) Try.func11 (by kernel_rfl)
    (of_decide_eq_true (by kernel_rfl)) (by unfold Func.isWrapper; first | (rw [if_pos (by decide +kernel)]; kernel_rfl) | (rw [if_neg (by decide +kernel)]; exact ⟨rfl, rfl⟩))
    (fun os started H enc _ => fnExactRunTank_lifted os started H enc)

end Go.Proofs.Ytbeeonpefmdkeaa
