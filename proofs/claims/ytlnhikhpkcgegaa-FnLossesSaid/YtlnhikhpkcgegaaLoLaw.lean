/-
  The law FnLosses returns true for every input, and leaves its argument as it was. No condition.
-/
import Derived.Deep.CutBlock
import Derived.Test.YtlnhikhpkcgegaaLo2
import Derived.Test.YtlnhikhpkcgegaaLo11
import Derived.Test.YtlnhikhpkcgegaaLo18
import Derived.Test.YtlnhikhpkcgegaaLo19
set_option linter.unusedVariables false
set_option linter.unusedSimpArgs false
namespace Go.Proofs.Ytlnhikhpkcgegaa
open Go.ChangeShapes Go.WideShapes Go.ChangeAt Go.RowKit Go.Joins

set_option maxRecDepth 100000 in
set_option maxHeartbeats 16000000 in
theorem law_FnLosses (a0 : Option Addr) (n0 c0 : Nat) (w : World) (h : BytesAt w a0 n0) :
    Calls Try.prog 6 #[.slice a0 n0 c0] w fun e w' => e = .returned (.bool true) ∧ Below w.heap.size w w' := by
  have H_code := hid h
  clear h
  by_cases hn : 65536 < n0
  · have hv : decide (65536 < n0) = true := by simpa using hn
    go_enter Try.func6, Try.ntmps6
    go_wp2_with fail
    refine (l_vBig _ _ _ _).mono ?_
    rintro e _ ⟨rfl, rfl⟩
    go_wp2
    go_ret
    exact ⟨rfl, Below.refl _ _⟩
  have hv : decide (65536 < n0) = false := by simpa using hn
  go_enter Try.func6, Try.ntmps6
  go_wp2_with fail
  refine (l_vBig _ _ _ _).mono ?_
  rintro e _ ⟨rfl, rfl⟩
  rw [hv]
  clear hn hv
  go_wp2_with fail
  refine (s_DrawLossAlong _ _ _ _ (H_code.out.below (by go_grown))).mono ?_
  rintro e w1 ⟨N, a, m, c, L, a1, m1, c1, l1, v2, v3, rfl, hq, ho1, ⟨⟨hN0, hN1⟩, hm, hm1⟩, hb⟩
  have HB_1 := hid (bstep (by go_grown) hb : Below w.heap.size w w1)
  have B_1 := HB_1
  have S_1 := HB_1.out.size
  clear hb
  have O_L := hid hq
  clear hq
  have O_l1 := hid ho1
  clear ho1
  obtain ⟨X, B, hR⟩ : ∃ X B, alongR N L l1 v2 v3 = (X, B) := ⟨_, _, rfl⟩
  have HR1 := hid hR
  clear hR
  go_wp2_with fail
  refine (i_LossAlong N v2 v3 _ _ _ _ _ _ L l1 _ ((OwnS.at qf_len O_L.out).below (by go_grown)) (O_l1.out.at.below (by go_grown)) (by omega) (by omega) X B HR1.out).mono ?_
  rintro e w2 ⟨rfl, hb⟩
  have HB_2 := hid (bstep (by go_grown) hb : Below w1.heap.size w1 w2)
  have B_2 := hid (bstep B_1.out HB_2.out)
  have S_2 := HB_2.out.size
  have T_2_1 : Hid (w2.heap[w1.heap.size]? = some (.cells #[.int .i64 N, .slice a m c] 26 (0, 0))) := hid (by rw [hb.block _ (by simp <;> omega)]; exact heap_alloc_new _ _)
  have m_2_1_0 : w2.cell? ⟨w1.heap.size, 0, none⟩ = some (.int .i64 N) := by rw [cell_of_row w2 _ _ _ _ (0, 0) T_2_1.out]; rfl
  have m_2_1_1 : w2.cell? ⟨w1.heap.size, 1, none⟩ = some (.slice a m c) := by rw [cell_of_row w2 _ _ _ _ (0, 0) T_2_1.out]; rfl
  have z_2_1 : w1.heap.size < w2.heap.size := (Array.getElem?_eq_some_iff.1 T_2_1.out).1
  clear hb
  have O_L_2 := hid (O_L.out.below HB_2.out)
  have O_l1_2 := hid (O_l1.out.below HB_2.out)
  go_wp2_with fail
  refine (s_LossAlong N v2 v3 _ _ _ _ _ _ L l1 _ ((OwnS.at qf_len O_L_2.out).below (by go_grown)) (O_l1_2.out.at.below (by go_grown)) (by omega) (by omega) X B HR1.out).mono ?_
  rintro e w3 ⟨rfl, hb⟩
  have HB_3 := hid (bstep (by go_grown) hb : Below w2.heap.size w2 w3)
  have B_3 := hid (bstep B_2.out HB_3.out)
  have S_3 := HB_3.out.size
  have T_3_1 := hid ((HB_3.out.block w1.heap.size (Array.getElem?_eq_some_iff.1 T_2_1.out).1).trans T_2_1.out)
  clear m_2_1_0 m_2_1_1 z_2_1
  have m_3_1_0 : w3.cell? ⟨w1.heap.size, 0, none⟩ = some (.int .i64 N) := by rw [cell_of_row w3 _ _ _ _ (0, 0) T_3_1.out]; rfl
  have m_3_1_1 : w3.cell? ⟨w1.heap.size, 1, none⟩ = some (.slice a m c) := by rw [cell_of_row w3 _ _ _ _ (0, 0) T_3_1.out]; rfl
  have z_3_1 : w1.heap.size < w3.heap.size := (Array.getElem?_eq_some_iff.1 T_3_1.out).1
  clear hb
  go_upto_region 6 with fail
  go_cut [83] (fun s83 wx => s83 = .bool false ∧ Hid (Below w3.heap.size w3 wx))
  case first => as_aux_lemma =>
    cases B
    · go_wp2_with fail
      go_meet
      exact ⟨rfl, hid (Below.refl _ _)⟩
    · by_cases hv9 : v2 = v3
      · subst hv9
        obtain rfl := along_self HR1.out
        go_wp2_with fail
        go_meet
        exact ⟨rfl, hid (Below.refl _ _)⟩
      · have hv8 : (v2 == v3) = false := by simpa using hv9
        go_wp2_with fail
        go_meet
        exact ⟨rfl, hid (Below.refl _ _)⟩
  case rest => as_aux_lemma =>
    obtain ⟨rfl, hcu⟩ := hcut
    obtain ⟨w4, hW4⟩ : ∃ W, W = wc := ⟨_, rfl⟩
    subst hW4
    have HB_4 := hcu
    have B_4 := hid (bstep B_3.out HB_4.out)
    have S_4 := HB_4.out.size
    have T_4_1 := hid ((HB_4.out.block w1.heap.size (Array.getElem?_eq_some_iff.1 T_3_1.out).1).trans T_3_1.out)
    clear m_3_1_0 m_3_1_1 z_3_1
    have m_4_1_0 : w4.cell? ⟨w1.heap.size, 0, none⟩ = some (.int .i64 N) := by rw [cell_of_row w4 _ _ _ _ (0, 0) T_4_1.out]; rfl
    have m_4_1_1 : w4.cell? ⟨w1.heap.size, 1, none⟩ = some (.slice a m c) := by rw [cell_of_row w4 _ _ _ _ (0, 0) T_4_1.out]; rfl
    have z_4_1 : w1.heap.size < w4.heap.size := (Array.getElem?_eq_some_iff.1 T_4_1.out).1
    clear hcu
    go_wp2_with fail
    refine (s_DrawEnergyOf _ _ _ _ ((H_code.out.below B_4.out).below (by go_grown))).mono ?_
    rintro e w5 ⟨N2, a2, m2, c2, L2, a3, m3, c3, l3, rfl, hq, ho3, ⟨⟨hN2, hN3⟩, hm2, hm3⟩, hb⟩
    have HB_5 := hid (bstep (by go_grown) hb : Below w4.heap.size w4 w5)
    have B_5 := hid (bstep B_4.out HB_5.out)
    have S_5 := HB_5.out.size
    have T_5_1 := hid ((HB_5.out.block w1.heap.size (Array.getElem?_eq_some_iff.1 T_4_1.out).1).trans T_4_1.out)
    clear m_4_1_0 m_4_1_1 z_4_1
    clear hb
    have O_L2 := hid hq
    clear hq
    have O_l3 := hid ho3
    clear ho3
    obtain ⟨X2, B2, hR⟩ : ∃ X2 B2, energyR N2 L2 l3 = (X2, B2) := ⟨_, _, rfl⟩
    have HR2 := hid hR
    clear hR
    go_wp2_with fail
    refine (i_EnergyOf N2 _ _ _ _ _ _ L2 l3 _ ((OwnS.at qf_len O_L2.out).below (by go_grown)) (O_l3.out.at.below (by go_grown)) (by omega) (by omega) X2 B2 HR2.out).mono ?_
    rintro e w6 ⟨rfl, hb⟩
    have HB_6 := hid (bstep (by go_grown) hb : Below w5.heap.size w5 w6)
    have B_6 := hid (bstep B_5.out HB_6.out)
    have S_6 := HB_6.out.size
    have T_6_1 := hid ((HB_6.out.block w1.heap.size (Array.getElem?_eq_some_iff.1 T_5_1.out).1).trans T_5_1.out)
    have T_6_2 : Hid (w6.heap[w5.heap.size]? = some (.cells #[.int .i64 N2, .slice a2 m2 c2] 26 (0, 0))) := hid (by rw [hb.block _ (by simp <;> omega)]; exact heap_alloc_new _ _)
    have m_6_2_0 : w6.cell? ⟨w5.heap.size, 0, none⟩ = some (.int .i64 N2) := by rw [cell_of_row w6 _ _ _ _ (0, 0) T_6_2.out]; rfl
    have m_6_2_1 : w6.cell? ⟨w5.heap.size, 1, none⟩ = some (.slice a2 m2 c2) := by rw [cell_of_row w6 _ _ _ _ (0, 0) T_6_2.out]; rfl
    have z_6_2 : w5.heap.size < w6.heap.size := (Array.getElem?_eq_some_iff.1 T_6_2.out).1
    clear hb
    have O_L2_6 := hid (O_L2.out.below HB_6.out)
    have O_l3_6 := hid (O_l3.out.below HB_6.out)
    go_wp2_with fail
    refine (s_EnergyOf N2 _ _ _ _ _ _ L2 l3 _ ((OwnS.at qf_len O_L2_6.out).below (by go_grown)) (O_l3_6.out.at.below (by go_grown)) (by omega) (by omega) X2 B2 HR2.out).mono ?_
    rintro e w7 ⟨rfl, hb⟩
    have HB_7 := hid (bstep (by go_grown) hb : Below w6.heap.size w6 w7)
    have B_7 := hid (bstep B_6.out HB_7.out)
    have S_7 := HB_7.out.size
    have T_7_1 := hid ((HB_7.out.block w1.heap.size (Array.getElem?_eq_some_iff.1 T_6_1.out).1).trans T_6_1.out)
    have T_7_2 := hid ((HB_7.out.block w5.heap.size (Array.getElem?_eq_some_iff.1 T_6_2.out).1).trans T_6_2.out)
    clear m_6_2_0 m_6_2_1 z_6_2
    have m_7_2_0 : w7.cell? ⟨w5.heap.size, 0, none⟩ = some (.int .i64 N2) := by rw [cell_of_row w7 _ _ _ _ (0, 0) T_7_2.out]; rfl
    have m_7_2_1 : w7.cell? ⟨w5.heap.size, 1, none⟩ = some (.slice a2 m2 c2) := by rw [cell_of_row w7 _ _ _ _ (0, 0) T_7_2.out]; rfl
    have z_7_2 : w5.heap.size < w7.heap.size := (Array.getElem?_eq_some_iff.1 T_7_2.out).1
    clear hb
    have HE := hid (energy_yes HR2.out)
    go_upto_region 11 with fail
    go_cut [112] (fun s112 wx => s112 = .bool false ∧ Hid (Below w7.heap.size w7 wx))
    case first => as_aux_lemma =>
      have hx2 : ¬ X2 < 0 := by have := HE.out.1; omega
      go_wp2_with fail
      go_meet
      exact ⟨rfl, hid (Below.refl _ _)⟩
    case rest => as_aux_lemma =>
      obtain ⟨rfl, hcu⟩ := hcut
      obtain ⟨w8, hW8⟩ : ∃ W, W = wc := ⟨_, rfl⟩
      subst hW8
      have HB_8 := hcu
      have B_8 := hid (bstep B_7.out HB_8.out)
      have S_8 := HB_8.out.size
      have T_8_1 := hid ((HB_8.out.block w1.heap.size (Array.getElem?_eq_some_iff.1 T_7_1.out).1).trans T_7_1.out)
      have T_8_2 := hid ((HB_8.out.block w5.heap.size (Array.getElem?_eq_some_iff.1 T_7_2.out).1).trans T_7_2.out)
      clear m_7_2_0 m_7_2_1 z_7_2
      have m_8_2_0 : w8.cell? ⟨w5.heap.size, 0, none⟩ = some (.int .i64 N2) := by rw [cell_of_row w8 _ _ _ _ (0, 0) T_8_2.out]; rfl
      have m_8_2_1 : w8.cell? ⟨w5.heap.size, 1, none⟩ = some (.slice a2 m2 c2) := by rw [cell_of_row w8 _ _ _ _ (0, 0) T_8_2.out]; rfl
      have z_8_2 : w5.heap.size < w8.heap.size := (Array.getElem?_eq_some_iff.1 T_8_2.out).1
      clear hcu
      have O_L2_8 := hid ((O_L2_6.out.below HB_7.out).below HB_8.out)
      have O_l3_8 := hid ((O_l3_6.out.below HB_7.out).below HB_8.out)
      go_upto_block 0 with fail
      go_cut [17] (fun s17 wx => ∃ y : Int, s17 = .int .i64 y ∧ Hid ((B2 = true → y = X2) ∧ Below w8.heap.size w8 wx))
      case first => as_aux_lemma =>
        cases B2
        · go_wp2
          go_loopg [17, 18] 0 (fun g s i wr => s = .int .i64 0 ∧ i = .int .i64 0 ∧ wr = w8)
          case atStart => exact ⟨rfl, rfl, rfl⟩
          case round =>
            obtain ⟨rfl, rfl, rfl⟩ := hrel
            go_wp2
            all_goals go_meet
            all_goals exact ⟨0, rfl, hid ⟨(fun e => by cases e), Below.refl _ _⟩⟩
        · obtain ⟨hgd, hlen, hx, hall⟩ := HE.out.2 rfl
          have HGD := hid hgd
          have HX := hid hx
          have HALL := hid hall
          obtain ⟨q, hqq⟩ : ∃ q, L2.length = q := ⟨_, rfl⟩
          have hmq : m2 = q := by have := OwnS.len O_L2_8.out; omega
          subst hmq
          have hm22 : m2 = m3 := by have := O_l3_8.out.len; omega
          subst hm22
          have hq10 : m2 ≤ 10 := by have := (goodNet_get HGD.out).2.1; omega
          have HQ := hid hqq
          clear hgd hlen hx hall hqq
          go_wp2
          go_loopg [17, 18] m2 (fun g s i wr => ∃ k : Nat, k ≤ m2 ∧ g = m2 - k ∧ s = .int .i64 (enrg L2 l3 k) ∧ i = .int .i64 k ∧ Hid (Below w8.heap.size w8 wr))
          case atStart => exact ⟨0, Nat.zero_le _, rfl, rfl, rfl, hid (Below.refl _ _)⟩
          case round =>
            obtain ⟨k, hk, rfl, rfl, rfl, hh⟩ := hrel
            obtain ⟨w9, hW9⟩ : ∃ W, W = wr := ⟨_, rfl⟩
            subst hW9
            have HB_9 := hh
            have B_9 := hid (bstep B_8.out HB_9.out)
            have S_9 := HB_9.out.size
            have T_9_1 := hid ((HB_9.out.block w1.heap.size (Array.getElem?_eq_some_iff.1 T_8_1.out).1).trans T_8_1.out)
            have T_9_2 := hid ((HB_9.out.block w5.heap.size (Array.getElem?_eq_some_iff.1 T_8_2.out).1).trans T_8_2.out)
            clear m_8_2_0 m_8_2_1 z_8_2
            have m_9_2_0 : w9.cell? ⟨w5.heap.size, 0, none⟩ = some (.int .i64 N2) := by rw [cell_of_row w9 _ _ _ _ (0, 0) T_9_2.out]; rfl
            have m_9_2_1 : w9.cell? ⟨w5.heap.size, 1, none⟩ = some (.slice a2 m2 c2) := by rw [cell_of_row w9 _ _ _ _ (0, 0) T_9_2.out]; rfl
            have z_9_2 : w5.heap.size < w9.heap.size := (Array.getElem?_eq_some_iff.1 T_9_2.out).1
            have O_L2_9 := hid (O_L2_8.out.below HB_9.out)
            have O_l3_9 := hid (O_l3_8.out.below HB_9.out)
            by_cases hlt9 : k < m2
            · have hlti : (k : Int) < (m2 : Int) := by omega
              obtain ⟨hl1, hl2, hl3, hl4, hl5⟩ := HALL.out k (by have := HQ.out; omega)
              have HL1 := hid hl1
              clear hl1
              obtain ⟨gb, go, e0, hgb, x0, x1, x2, x3⟩ := QAt.get (OwnS.at qf_len O_L2_9.out) k hlt9
              subst e0
              clear x1 x2 x3
              go_upto_region 17 with fail
              refine wp_region_noPanic ?_
              refine wp_region_held_drew (S := (fun w' => w'.cell? ⟨w5.heap.size, 0, none⟩ = some (.int .i64 N2) ∧ w'.cell? ⟨w5.heap.size, 1, none⟩ = some (.slice (some ⟨gb, go, none⟩) m2 c2) ∧ w'.cell? ⟨gb, go + k * 4, none⟩ = some (.int .i64 (pp L2 k).1))) (by kernel_rfl) (by exact ⟨m_9_2_0, m_9_2_1, x0⟩) (fun hHeld => ?_)
              refine wpAnyH_take' (i := 0) (v := ?_) rfl (by kernel_rfl) (by kernel_rfl) (by kernel_rfl) (fun _ _ _ h => h) (Or.inl ⟨by rfl, ?_⟩) (by assumption) ?_
              rotate_left
              · (intro w' hSw; (try dsimp only at hSw); go_simp; all_goals with_reducible rfl)
              try simp only [Act.put, List.setIfInBounds_toArray, List.set_cons_zero, List.set_cons_succ]
              refine wpAnyH_take' (i := 1) (v := ?_) rfl (by kernel_rfl) (by kernel_rfl) (by kernel_rfl) (fun _ _ _ h => h) (Or.inl ⟨by rfl, ?_⟩) (by assumption) ?_
              rotate_left
              · (intro w' hSw; (try dsimp only at hSw); go_simp; all_goals with_reducible rfl)
              try simp only [Act.put, List.setIfInBounds_toArray, List.set_cons_zero, List.set_cons_succ]
              refine wpAnyH_take' (i := 2) (v := ?_) rfl (by kernel_rfl) (by kernel_rfl) (by kernel_rfl) (fun _ _ _ h => h) (Or.inl ⟨by rfl, ?_⟩) (by assumption) ?_
              rotate_left
              · (intro w' hSw; (try dsimp only at hSw); go_simp; all_goals with_reducible rfl)
              try simp only [Act.put, List.setIfInBounds_toArray, List.set_cons_zero, List.set_cons_succ]
              refine wpAnyH_take' (i := 3) (v := ?_) rfl (by kernel_rfl) (by kernel_rfl) (by kernel_rfl) (fun _ _ _ h => h) (Or.inl ⟨by rfl, ?_⟩) (by assumption) ?_
              rotate_left
              · (intro w' hSw; (try dsimp only at hSw); go_simp; all_goals with_reducible rfl)
              try simp only [Act.put, List.setIfInBounds_toArray, List.set_cons_zero, List.set_cons_succ]
              refine wpAnyH_take' (i := 4) (v := ?_) rfl (by kernel_rfl) (by kernel_rfl) (by kernel_rfl) (fun _ _ _ h => h) (Or.inl ⟨by rfl, ?_⟩) (by assumption) ?_
              rotate_left
              · (intro w' hSw; (try dsimp only at hSw); go_simp; all_goals with_reducible rfl)
              try simp only [Act.put, List.setIfInBounds_toArray, List.set_cons_zero, List.set_cons_succ]
              refine wpAnyH_take' (i := 5) (v := ?_) rfl (by kernel_rfl) (by kernel_rfl) (by kernel_rfl) (fun _ _ _ h => h) (Or.inl ⟨by rfl, ?_⟩) (by assumption) ?_
              rotate_left
              · (intro w' hSw; (try dsimp only at hSw); go_simp; all_goals with_reducible rfl)
              try simp only [Act.put, List.setIfInBounds_toArray, List.set_cons_zero, List.set_cons_succ]
              refine wpAnyH_take' (i := 6) (v := ?_) rfl (by kernel_rfl) (by kernel_rfl) (by kernel_rfl) (fun _ _ _ h => h) (Or.inl ⟨by rfl, ?_⟩) (by assumption) ?_
              rotate_left
              · (intro w' hSw; (try dsimp only at hSw); go_simp; all_goals with_reducible rfl)
              try simp only [Act.put, List.setIfInBounds_toArray, List.set_cons_zero, List.set_cons_succ]
              refine wpAnyH_take' (i := 7) (v := ?_) rfl (by kernel_rfl) (by kernel_rfl) (by kernel_rfl) (fun _ _ _ h => h) (Or.inl ⟨by rfl, ?_⟩) (by assumption) ?_
              rotate_left
              · (intro w' hSw; (try dsimp only at hSw); go_simp; all_goals with_reducible rfl)
              try simp only [Act.put, List.setIfInBounds_toArray, List.set_cons_zero, List.set_cons_succ]
              refine wpAnyH_ready (rs := [8]) (by kernel_rfl) (by simp) ?_
              refine allReadyH_cons' rfl (fun Kn hKn => ?_) AllReadyH.nil
              go_simp
              go_at_call 34
              refine (i_LossOf N2 _ _ _ _ _ _ L2 l3 _ _ (OwnS.at qf_len (OwnS.below O_L2_9.out (by go_grown))) (O_l3_9.out.below (by go_grown)).at (by omega) (by omega) _ _ HL1.out).mono ?_
              rintro e wq ⟨rfl, hbq⟩
              have BQ := hid (bstep (by go_grown) hbq : Below w9.heap.size w9 wq)
              have y0 := (BQ.out.cell (World.block_lt_of_cell? _ _ m_9_2_0)).trans m_9_2_0
              have y1 := (BQ.out.cell (World.block_lt_of_cell? _ _ m_9_2_1)).trans m_9_2_1
              have y2 := (BQ.out.cell (World.block_lt_of_cell? _ _ x0)).trans x0
              clear hbq x0
              refine hKn.out _ _ ⟨y0, y1, y2⟩ (fun hHeldN => ?_)
              clear hKn Kn hHeld
              have hHeld := hHeldN
              clear hHeldN
              try simp only [Act.put, List.setIfInBounds_toArray, List.set_cons_zero, List.set_cons_succ]
              refine wpAnyH_take' (i := 9) (v := ?_) rfl (by kernel_rfl) (by kernel_rfl) (by kernel_rfl) (fun _ _ _ h => h) (Or.inl ⟨by rfl, ?_⟩) (by assumption) ?_
              rotate_left
              · (intro w' hSw; (try dsimp only at hSw); go_simp; all_goals with_reducible rfl)
              try simp only [Act.put, List.setIfInBounds_toArray, List.set_cons_zero, List.set_cons_succ]
              refine wpAnyH_take' (i := 10) (v := ?_) rfl (by kernel_rfl) (by kernel_rfl) (by kernel_rfl) (fun _ _ _ h => h) (Or.inl ⟨by rfl, ?_⟩) (by assumption) ?_
              rotate_left
              · (intro w' hSw; (try dsimp only at hSw); go_simp; all_goals with_reducible rfl)
              try simp only [Act.put, List.setIfInBounds_toArray, List.set_cons_zero, List.set_cons_succ]
              refine wpAnyH_take' (i := 11) (v := ?_) rfl (by kernel_rfl) (by kernel_rfl) (by kernel_rfl) (fun _ _ _ h => h) (Or.inl ⟨by rfl, ?_⟩) (by assumption) ?_
              rotate_left
              · (intro w' hSw; (try dsimp only at hSw); go_simp; all_goals with_reducible rfl)
              try simp only [Act.put, List.setIfInBounds_toArray, List.set_cons_zero, List.set_cons_succ]
              refine wpAnyH_take' (i := 12) (v := ?_) rfl (by kernel_rfl) (by kernel_rfl) (by kernel_rfl) (fun _ _ _ h => h) (Or.inl ⟨by rfl, ?_⟩) (by assumption) ?_
              rotate_left
              · (intro w' hSw; (try dsimp only at hSw); go_simp; all_goals with_reducible rfl)
              try simp only [Act.put, List.setIfInBounds_toArray, List.set_cons_zero, List.set_cons_succ]
              refine wpAnyH_take' (i := 13) (v := ?_) rfl (by kernel_rfl) (by kernel_rfl) (by kernel_rfl) (fun _ _ _ h => h) (Or.inl ⟨by rfl, ?_⟩) (by assumption) ?_
              rotate_left
              · (intro w' hSw; (try dsimp only at hSw); go_simp; all_goals with_reducible rfl)
              try simp only [Act.put, List.setIfInBounds_toArray, List.set_cons_zero, List.set_cons_succ]
              refine wpAnyH_done (by kernel_rfl) ?_ _
              refine NoPanic.normal ?_
              clear hHeld
              have hcl := (O_l3_9.out.below BQ.out)
              obtain ⟨g3, rfl, -, hg3⟩ := own_some hcl (by omega)
              have hc3 := hcl.cell (k := k) hlt9
              have hw1 := IntWalk.i64_in (loss L2 l3 k * l3[k]?.getD 0) (by omega)
              have hw2 : IntKind.i64.wrap (enrg L2 l3 k + loss L2 l3 k * l3[k]?.getD 0) = enrg L2 l3 (k + 1) := by rw [IntWalk.i64_in _ (by omega), hl3]
              have hwk : IntKind.i64.wrap ((k : Int) + 1) = ((k + 1 : Nat) : Int) := by rw [IntWalk.i64_in _ (by omega)]; omega
              clear hcl hl2 hl3 hl4 hl5 y0 y1 y2 m_9_2_0 m_9_2_1 z_9_2
              go_wp2
              go_roundg (m2 - (k + 1))
              case rel => exact ⟨k + 1, by omega, rfl, rfl, rfl, hid (bstep hh.out BQ.out)⟩
              case measure => omega
            · obtain rfl : m2 = k := by omega
              go_wp2
              go_meet
              exact ⟨_, rfl, hid ⟨fun _ => by rw [HX.out, HQ.out], hh.out⟩⟩
      case rest => as_aux_lemma =>
        obtain ⟨y, rfl, hcu⟩ := hcut
        have HY := hid hcu.out.1
        obtain ⟨w9, hW9⟩ : ∃ W, W = wc := ⟨_, rfl⟩
        subst hW9
        have HB_9 := hid hcu.out.2
        have B_9 := hid (bstep B_8.out HB_9.out)
        have S_9 := HB_9.out.size
        have T_9_1 := hid ((HB_9.out.block w1.heap.size (Array.getElem?_eq_some_iff.1 T_8_1.out).1).trans T_8_1.out)
        have T_9_2 := hid ((HB_9.out.block w5.heap.size (Array.getElem?_eq_some_iff.1 T_8_2.out).1).trans T_8_2.out)
        clear m_8_2_0 m_8_2_1 z_8_2
        have m_9_2_0 : w9.cell? ⟨w5.heap.size, 0, none⟩ = some (.int .i64 N2) := by rw [cell_of_row w9 _ _ _ _ (0, 0) T_9_2.out]; rfl
        have m_9_2_1 : w9.cell? ⟨w5.heap.size, 1, none⟩ = some (.slice a2 m2 c2) := by rw [cell_of_row w9 _ _ _ _ (0, 0) T_9_2.out]; rfl
        have z_9_2 : w5.heap.size < w9.heap.size := (Array.getElem?_eq_some_iff.1 T_9_2.out).1
        clear hcu
        go_upto_region 21 with fail
        go_cut [150] (fun s150 wx => s150 = .bool false ∧ Hid (Below w9.heap.size w9 wx))
        case first => as_aux_lemma =>
          cases B2
          · go_wp2_with fail
            go_meet
            exact ⟨rfl, hid (Below.refl _ _)⟩
          · obtain rfl := HY.out rfl
            go_wp2_with fail
            go_meet
            exact ⟨rfl, hid (Below.refl _ _)⟩
        case rest => as_aux_lemma =>
          obtain ⟨rfl, hcu⟩ := hcut
          obtain ⟨w10, hW10⟩ : ∃ W, W = wc := ⟨_, rfl⟩
          subst hW10
          have HB_10 := hcu
          have B_10 := hid (bstep B_9.out HB_10.out)
          have S_10 := HB_10.out.size
          have T_10_1 := hid ((HB_10.out.block w1.heap.size (Array.getElem?_eq_some_iff.1 T_9_1.out).1).trans T_9_1.out)
          have T_10_2 := hid ((HB_10.out.block w5.heap.size (Array.getElem?_eq_some_iff.1 T_9_2.out).1).trans T_9_2.out)
          clear m_9_2_0 m_9_2_1 z_9_2
          have m_10_2_0 : w10.cell? ⟨w5.heap.size, 0, none⟩ = some (.int .i64 N2) := by rw [cell_of_row w10 _ _ _ _ (0, 0) T_10_2.out]; rfl
          have m_10_2_1 : w10.cell? ⟨w5.heap.size, 1, none⟩ = some (.slice a2 m2 c2) := by rw [cell_of_row w10 _ _ _ _ (0, 0) T_10_2.out]; rfl
          have z_10_2 : w5.heap.size < w10.heap.size := (Array.getElem?_eq_some_iff.1 T_10_2.out).1
          clear hcu
          obtain ⟨X4, Y4, B4, hR⟩ : ∃ X4 Y4 B4, steepR N2 L2 l3 = (X4, Y4, B4) := ⟨_, _, _, rfl⟩
          have HR4 := hid hR
          clear hR
          have O_L2_10 := hid ((O_L2_8.out.below HB_9.out).below HB_10.out)
          have O_l3_10 := hid ((O_l3_8.out.below HB_9.out).below HB_10.out)
          go_wp2_with fail
          refine (i_SteepestPipe N2 _ _ _ _ _ _ L2 l3 _ ((OwnS.at qf_len O_L2_10.out).below (by go_grown)) (O_l3_10.out.at.below (by go_grown)) (by omega) (by omega) X4 Y4 B4 HR4.out).mono ?_
          rintro e w11 ⟨rfl, hb⟩
          have HB_11 := hid (bstep (by go_grown) hb : Below w10.heap.size w10 w11)
          have B_11 := hid (bstep B_10.out HB_11.out)
          have S_11 := HB_11.out.size
          have T_11_1 := hid ((HB_11.out.block w1.heap.size (Array.getElem?_eq_some_iff.1 T_10_1.out).1).trans T_10_1.out)
          have T_11_2 := hid ((HB_11.out.block w5.heap.size (Array.getElem?_eq_some_iff.1 T_10_2.out).1).trans T_10_2.out)
          clear m_10_2_0 m_10_2_1 z_10_2
          have m_11_2_0 : w11.cell? ⟨w5.heap.size, 0, none⟩ = some (.int .i64 N2) := by rw [cell_of_row w11 _ _ _ _ (0, 0) T_11_2.out]; rfl
          have m_11_2_1 : w11.cell? ⟨w5.heap.size, 1, none⟩ = some (.slice a2 m2 c2) := by rw [cell_of_row w11 _ _ _ _ (0, 0) T_11_2.out]; rfl
          have z_11_2 : w5.heap.size < w11.heap.size := (Array.getElem?_eq_some_iff.1 T_11_2.out).1
          clear hb
          have O_L2_11 := hid (O_L2_10.out.below HB_11.out)
          have O_l3_11 := hid (O_l3_10.out.below HB_11.out)
          go_wp2_with fail
          refine (s_SteepestPipe N2 _ _ _ _ _ _ L2 l3 _ ((OwnS.at qf_len O_L2_11.out).below (by go_grown)) (O_l3_11.out.at.below (by go_grown)) (by omega) (by omega) X4 Y4 B4 HR4.out).mono ?_
          rintro e w12 ⟨rfl, hb⟩
          have HB_12 := hid (bstep (by go_grown) hb : Below w11.heap.size w11 w12)
          have B_12 := hid (bstep B_11.out HB_12.out)
          have S_12 := HB_12.out.size
          have T_12_1 := hid ((HB_12.out.block w1.heap.size (Array.getElem?_eq_some_iff.1 T_11_1.out).1).trans T_11_1.out)
          have T_12_2 := hid ((HB_12.out.block w5.heap.size (Array.getElem?_eq_some_iff.1 T_11_2.out).1).trans T_11_2.out)
          clear m_11_2_0 m_11_2_1 z_11_2
          have m_12_2_0 : w12.cell? ⟨w5.heap.size, 0, none⟩ = some (.int .i64 N2) := by rw [cell_of_row w12 _ _ _ _ (0, 0) T_12_2.out]; rfl
          have m_12_2_1 : w12.cell? ⟨w5.heap.size, 1, none⟩ = some (.slice a2 m2 c2) := by rw [cell_of_row w12 _ _ _ _ (0, 0) T_12_2.out]; rfl
          have z_12_2 : w5.heap.size < w12.heap.size := (Array.getElem?_eq_some_iff.1 T_12_2.out).1
          clear hb
          go_upto_region 25 with fail
          go_cut [177] (fun s177 wx => s177 = .bool false ∧ Hid (Below w12.heap.size w12 wx))
          case first => as_aux_lemma =>
            go_wp2_with fail
            go_meet
            exact ⟨rfl, hid (Below.refl _ _)⟩
          case rest => as_aux_lemma =>
            obtain ⟨rfl, hcu⟩ := hcut
            obtain ⟨w13, hW13⟩ : ∃ W, W = wc := ⟨_, rfl⟩
            subst hW13
            have HB_13 := hcu
            have B_13 := hid (bstep B_12.out HB_13.out)
            have S_13 := HB_13.out.size
            have T_13_1 := hid ((HB_13.out.block w1.heap.size (Array.getElem?_eq_some_iff.1 T_12_1.out).1).trans T_12_1.out)
            have T_13_2 := hid ((HB_13.out.block w5.heap.size (Array.getElem?_eq_some_iff.1 T_12_2.out).1).trans T_12_2.out)
            clear m_12_2_0 m_12_2_1 z_12_2
            have m_13_2_0 : w13.cell? ⟨w5.heap.size, 0, none⟩ = some (.int .i64 N2) := by rw [cell_of_row w13 _ _ _ _ (0, 0) T_13_2.out]; rfl
            have m_13_2_1 : w13.cell? ⟨w5.heap.size, 1, none⟩ = some (.slice a2 m2 c2) := by rw [cell_of_row w13 _ _ _ _ (0, 0) T_13_2.out]; rfl
            have z_13_2 : w5.heap.size < w13.heap.size := (Array.getElem?_eq_some_iff.1 T_13_2.out).1
            clear hcu
            go_wp2_with fail
            refine (s_DrawPressuresOf _ _ _ _ ((H_code.out.below B_13.out).below (by go_grown))).mono ?_
            rintro e w14 ⟨N5, a5, m5, c5, L5, v6, a6, m6, c6, l6, v7, a7, m7, c7, l7, rfl, hq, ho6, ho7, ⟨⟨hN5, hN6⟩, hm5, hm6, hm7⟩, hb⟩
            have HB_14 := hid (bstep (by go_grown) hb : Below w13.heap.size w13 w14)
            have B_14 := hid (bstep B_13.out HB_14.out)
            have S_14 := HB_14.out.size
            have T_14_1 := hid ((HB_14.out.block w1.heap.size (Array.getElem?_eq_some_iff.1 T_13_1.out).1).trans T_13_1.out)
            have T_14_2 := hid ((HB_14.out.block w5.heap.size (Array.getElem?_eq_some_iff.1 T_13_2.out).1).trans T_13_2.out)
            clear m_13_2_0 m_13_2_1 z_13_2
            clear hb
            have O_L5 := hid hq
            clear hq
            have O_l6 := hid ho6
            clear ho6
            have O_l7 := hid ho7
            clear ho7
            obtain ⟨R8, B8, hR⟩ : ∃ R8 B8, pressR N5 L5 v6 l6 v7 l7 = (R8, B8) := ⟨_, _, rfl⟩
            have HR8 := hid hR
            clear hR
            go_wp2_with fail
            refine (i_PressuresOf N5 v6 v7 _ _ _ _ _ _ _ _ _ L5 l6 l7 _ ((OwnS.at qf_len O_L5.out).below (by go_grown)) (O_l6.out.at.below (by go_grown)) (O_l7.out.at.below (by go_grown)) (by omega) (by omega) (by omega) R8 B8 HR8.out).mono ?_
            rintro e w15 ⟨a8, c8, rfl, ho8, hb⟩
            have HB_15 := hid (bstep (by go_grown) hb : Below w14.heap.size w14 w15)
            have B_15 := hid (bstep B_14.out HB_15.out)
            have S_15 := HB_15.out.size
            have T_15_1 := hid ((HB_15.out.block w1.heap.size (Array.getElem?_eq_some_iff.1 T_14_1.out).1).trans T_14_1.out)
            have T_15_2 := hid ((HB_15.out.block w5.heap.size (Array.getElem?_eq_some_iff.1 T_14_2.out).1).trans T_14_2.out)
            have T_15_3 : Hid (w15.heap[w14.heap.size]? = some (.cells #[.int .i64 N5, .slice a5 m5 c5] 26 (0, 0))) := hid (by rw [hb.block _ (by simp <;> omega)]; exact heap_alloc_new _ _)
            have m_15_3_0 : w15.cell? ⟨w14.heap.size, 0, none⟩ = some (.int .i64 N5) := by rw [cell_of_row w15 _ _ _ _ (0, 0) T_15_3.out]; rfl
            have m_15_3_1 : w15.cell? ⟨w14.heap.size, 1, none⟩ = some (.slice a5 m5 c5) := by rw [cell_of_row w15 _ _ _ _ (0, 0) T_15_3.out]; rfl
            have z_15_3 : w14.heap.size < w15.heap.size := (Array.getElem?_eq_some_iff.1 T_15_3.out).1
            clear hb
            have O_R8 := hid ho8
            clear ho8
            have O_L5_15 := hid (O_L5.out.below HB_15.out)
            have O_l6_15 := hid (O_l6.out.below HB_15.out)
            have O_l7_15 := hid (O_l7.out.below HB_15.out)
            go_wp2_with fail
            refine (s_PressuresOf N5 v6 v7 _ _ _ _ _ _ _ _ _ L5 l6 l7 _ ((OwnS.at qf_len O_L5_15.out).below (by go_grown)) (O_l6_15.out.at.below (by go_grown)) (O_l7_15.out.at.below (by go_grown)) (by omega) (by omega) (by omega) (q_cap O_L5_15.out) R8 B8 HR8.out).mono ?_
            rintro e w16 ⟨a9, c9, rfl, ho9, hb⟩
            have HB_16 := hid (bstep (by go_grown) hb : Below w15.heap.size w15 w16)
            have B_16 := hid (bstep B_15.out HB_16.out)
            have S_16 := HB_16.out.size
            have T_16_1 := hid ((HB_16.out.block w1.heap.size (Array.getElem?_eq_some_iff.1 T_15_1.out).1).trans T_15_1.out)
            have T_16_2 := hid ((HB_16.out.block w5.heap.size (Array.getElem?_eq_some_iff.1 T_15_2.out).1).trans T_15_2.out)
            have T_16_3 := hid ((HB_16.out.block w14.heap.size (Array.getElem?_eq_some_iff.1 T_15_3.out).1).trans T_15_3.out)
            clear m_15_3_0 m_15_3_1 z_15_3
            have m_16_3_0 : w16.cell? ⟨w14.heap.size, 0, none⟩ = some (.int .i64 N5) := by rw [cell_of_row w16 _ _ _ _ (0, 0) T_16_3.out]; rfl
            have m_16_3_1 : w16.cell? ⟨w14.heap.size, 1, none⟩ = some (.slice a5 m5 c5) := by rw [cell_of_row w16 _ _ _ _ (0, 0) T_16_3.out]; rfl
            have z_16_3 : w14.heap.size < w16.heap.size := (Array.getElem?_eq_some_iff.1 T_16_3.out).1
            clear hb
            have O_R9 := hid ho9
            clear ho9
            have hl8 : R8.length ≤ 1048576 := by have := pressR_len HR8.out; omega
            have O_R8_16 := hid (O_R8.out.below HB_16.out)
            go_wp2_with fail
            refine (l_vInts_same _ _ _ _ _ R8 _ (O_R8_16.out.at.below (by go_grown)) (O_R9.out.at.below (by go_grown)) (by omega)).mono ?_
            rintro e w17 ⟨rfl, hb⟩
            have HB_17 := hid (bstep (by go_grown) hb : Below w16.heap.size w16 w17)
            have B_17 := hid (bstep B_16.out HB_17.out)
            have S_17 := HB_17.out.size
            have T_17_1 := hid ((HB_17.out.block w1.heap.size (Array.getElem?_eq_some_iff.1 T_16_1.out).1).trans T_16_1.out)
            have T_17_2 := hid ((HB_17.out.block w5.heap.size (Array.getElem?_eq_some_iff.1 T_16_2.out).1).trans T_16_2.out)
            have T_17_3 := hid ((HB_17.out.block w14.heap.size (Array.getElem?_eq_some_iff.1 T_16_3.out).1).trans T_16_3.out)
            clear m_16_3_0 m_16_3_1 z_16_3
            have m_17_3_0 : w17.cell? ⟨w14.heap.size, 0, none⟩ = some (.int .i64 N5) := by rw [cell_of_row w17 _ _ _ _ (0, 0) T_17_3.out]; rfl
            have m_17_3_1 : w17.cell? ⟨w14.heap.size, 1, none⟩ = some (.slice a5 m5 c5) := by rw [cell_of_row w17 _ _ _ _ (0, 0) T_17_3.out]; rfl
            have z_17_3 : w14.heap.size < w17.heap.size := (Array.getElem?_eq_some_iff.1 T_17_3.out).1
            clear hb
            cases B8
            · go_wp2
              go_ret
              exact ⟨rfl, B_17.out⟩
            · obtain ⟨H8, hh1, hh2, hh3, hh4, hh5⟩ := press_heads HR8.out
              have hfit := headsR_fit hh1
              have HH1 := hid hh1
              have HH5 := hid hh5
              have HFIT := hid hfit
              have O_l7_17 := hid ((O_l7_15.out.below HB_16.out).below HB_17.out)
              have hm78 : R8.length = m7 := by have := O_l7_17.out.len; omega
              have hm79 : H8.length = m7 := by omega
              have HQ8 := hid hm78
              have HQ9 := hid hm79
              have hm8 : m7 ≤ 8 := by omega
              clear hh1 hh2 hh3 hh4 hh5 hfit hm78 hm79 hl8
              have O_L5_17 := hid ((O_L5_15.out.below HB_16.out).below HB_17.out)
              have O_l6_17 := hid ((O_l6_15.out.below HB_16.out).below HB_17.out)
              go_wp2_with fail
              refine (i_HeadsOf N5 v6 v7 _ _ _ _ _ _ L5 l6 _ ((OwnS.at qf_len O_L5_17.out).below (by go_grown)) (O_l6_17.out.at.below (by go_grown)) (by omega) (by omega) H8 true HH1.out).mono ?_
              rintro e w18 ⟨a10, c10, rfl, ho10, hb⟩
              have HB_18 := hid (bstep (by go_grown) hb : Below w17.heap.size w17 w18)
              have B_18 := hid (bstep B_17.out HB_18.out)
              have S_18 := HB_18.out.size
              have T_18_1 := hid ((HB_18.out.block w1.heap.size (Array.getElem?_eq_some_iff.1 T_17_1.out).1).trans T_17_1.out)
              have T_18_2 := hid ((HB_18.out.block w5.heap.size (Array.getElem?_eq_some_iff.1 T_17_2.out).1).trans T_17_2.out)
              have T_18_3 := hid ((HB_18.out.block w14.heap.size (Array.getElem?_eq_some_iff.1 T_17_3.out).1).trans T_17_3.out)
              clear m_17_3_0 m_17_3_1 z_17_3
              have m_18_3_0 : w18.cell? ⟨w14.heap.size, 0, none⟩ = some (.int .i64 N5) := by rw [cell_of_row w18 _ _ _ _ (0, 0) T_18_3.out]; rfl
              have m_18_3_1 : w18.cell? ⟨w14.heap.size, 1, none⟩ = some (.slice a5 m5 c5) := by rw [cell_of_row w18 _ _ _ _ (0, 0) T_18_3.out]; rfl
              have z_18_3 : w14.heap.size < w18.heap.size := (Array.getElem?_eq_some_iff.1 T_18_3.out).1
              clear hb
              have P10 := hid (show OwnI w18 _ (.slice a10 m7 c10) H8 from by rw [← HQ9.out]; exact ho10)
              have O_R8_18 := hid ((O_R8_16.out.below HB_17.out).below HB_18.out)
              have P8 := hid (show OwnI w18 _ (.slice a8 m7 c8) R8 from by have := O_R8_18.out; rw [HQ8.out] at this; exact this)
              have O_l7_18 := hid (O_l7_17.out.below HB_18.out)
              clear ho10
              rw [HQ8.out, HQ9.out]
              go_wp2
              go_loopg [38] m7 (fun g i wr => ∃ k : Nat, k ≤ m7 ∧ g = m7 - k ∧ i = .int .i64 k ∧ Hid (Below w18.heap.size w18 wr))
              case atStart => exact ⟨0, Nat.zero_le _, rfl, rfl, hid (Below.refl _ _)⟩
              case round =>
                obtain ⟨k, hk, rfl, rfl, hh⟩ := hrel
                by_cases hlt9 : k < m7
                · have hlti : (k : Int) < (m7 : Int) := by omega
                  have hki : (0 : Int) ≤ (k : Int) := by omega
                  have hcl8 := P8.out.below hh.out
                  obtain ⟨g8, rfl, -, hg8⟩ := own_some hcl8 (by omega)
                  have x8 := hcl8.cell (k := k) hlt9
                  clear hcl8
                  have hcl7 := O_l7_18.out.below hh.out
                  obtain ⟨g7, rfl, -, hg7⟩ := own_some hcl7 (by omega)
                  have x7 := hcl7.cell (k := k) hlt9
                  clear hcl7
                  have hcl10 := P10.out.below hh.out
                  obtain ⟨g10, rfl, -, hg10⟩ := own_some hcl10 (by omega)
                  have x10 := hcl10.cell (k := k) hlt9
                  clear hcl10
                  have hb1 := HFIT.out k (by have := HQ9.out; omega)
                  have hb2 := HH5.out k (by have := HQ8.out; omega)
                  have hw : IntKind.i64.wrap (R8[k]?.getD 0 + l7[k]?.getD 0) = H8[k]?.getD 0 := by rw [hb2, IntWalk.i64_in _ (by omega)]
                  have hwk : IntKind.i64.wrap ((k : Int) + 1) = ((k + 1 : Nat) : Int) := by rw [IntWalk.i64_in _ (by omega)]; omega
                  clear hb1 hb2
                  go_upto_region 39 with fail
                  go_quiet (fail)
                  clear x8 x7 x10 hw
                  go_wp2
                  go_roundg (m7 - (k + 1))
                  case rel => exact ⟨k + 1, by omega, rfl, rfl, hid (bstep hh.out (bdraws _))⟩
                  case measure => omega
                · obtain rfl : m7 = k := by omega
                  go_wp2
                  go_ret
                  exact ⟨rfl, bstep B_18.out hh.out⟩

set_option maxRecDepth 100000 in
theorem fnLosses_lifted (os : Os) (started : os.Started) (H : Type) (enc : TypeId × Value → H) :
    ReturnsInHanded {} Try.checked os 6 .any (Rows.fnLossesSpec.pre6 enc Try.prog Try.f6 Rows.fnLossesRow.domain false) (Rows.fnLossesSpec.post enc Try.prog Try.f6 false true false false) := by
  refine returnsInHanded_of_change (C := Try.checked) Try.own started (by kernel_rfl) Try.func6
    (ChangeSpec.witness6 (enc := enc) (C := Try.checked) false ⟨#[], #[.slice none 0 0], []⟩ 8 (by kernel_rfl) (by kernel_rfl) (by kernel_rfl) (by kernel_rfl)) ?_
  intro W base args ds gs before hval0 hW _ _
  have hval : ∀ (j : Nat) t v, Try.f6.params[j]? = some t → args[j]? = some v → Value.okWide Try.prog W .any base t v := hval0
  have hW' : DataW.Whole enc Try.prog Try.f6.params.toList Rows.fnLossesSpec.vars false W args.toList ds gs before := hW
  obtain ⟨p, q, hA0, hV, rfl, hfz, hnd⟩ := hW
  have hlt : ∀ x ∈ p, x.block < W.heap.size := fun x hx => hW'.lt x (by simp [hx])
  have hA : DataW.TrodAll enc Try.prog W 0 (fun _ => true) true Try.f6.params.toList args.toList ds p := hA0
  rw [Try.params6] at hA hval
  clear hA0 hval0
  obtain ⟨v0, d0, rfl, rfl, h0⟩ := trodAll_one hA
  obtain ⟨rfl, rfl⟩ := trodVars_none hV
  obtain ⟨x0, n0, k0, rfl, g0⟩ := open_bytes (hval 0 22 v0 rfl rfl) h0
  refine (law_FnLosses x0 n0 k0 W g0).mono fun e W' ⟨he, hb⟩ => ?_
  subst he
  exact ⟨_, rfl, law_post rfl rfl (by kernel_rfl) hW' rfl rfl rfl hb⟩

theorem fnLosses_proved : Rows.FnLossesSaid :=
  OpenClaim.holds_of_wide 6 Try.f6 rfl rfl rfl rfl rfl rfl rfl ⟨rfl, rfl, rfl, rfl, rfl⟩ rfl rfl rfl rfl rfl (by kernel_rfl) Try.func6 (by kernel_rfl)
    (of_decide_eq_true (by kernel_rfl)) (by unfold Func.isWrapper; first | (rw [if_pos (by decide +kernel)]; kernel_rfl) | (rw [if_neg (by decide +kernel)]; exact ⟨rfl, rfl⟩))
    (fun os started H enc _ => fnLosses_lifted os started H enc)

end Go.Proofs.Ytlnhikhpkcgegaa

