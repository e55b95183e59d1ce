/-
  The law FnPumps returns true for every input, and leaves its argument as it was. No condition.
-/
import Derived.Deep.CutBlock
import Derived.Test.YtpcbeapajlchgaaPu5
import Derived.Test.YtpcbeapajlchgaaPu6
import Derived.Test.YtpcbeapajlchgaaPu8
set_option linter.unusedVariables false
set_option linter.unusedSimpArgs false
namespace Go.Proofs.Ytpcbeapajlchgaa
open Go.ChangeShapes Go.WideShapes Go.ChangeAt Go.RowKit Go.Joins

set_option maxRecDepth 100000 in
set_option maxHeartbeats 16000000 in
theorem law_FnPumps (a0 : Option Addr) (n0 c0 : Nat) (w : World) (h : BytesAt w a0 n0) :
    Calls Try.prog 13 #[.slice a0 n0 c0] w fun e w' => e = .returned (.bool true) ∧ Below w.heap.size w w' := by
  have H_code := hid h
  clear h
  by_cases hn : 65536 < n0
  · have hv : decide (65536 < n0) = true := by simpa using hn
    go_enter Try.func13, Try.ntmps13
    go_wp2_with fail
    refine (l_rBig _ _ _ _).mono ?_
    rintro e _ ⟨rfl, rfl⟩
    go_wp2
    go_ret
    exact ⟨rfl, Below.refl _ _⟩
  have hv : decide (65536 < n0) = false := by simpa using hn
  go_enter Try.func13, Try.ntmps13
  go_wp2_with fail
  refine (l_rBig _ _ _ _).mono ?_
  rintro e _ ⟨rfl, rfl⟩
  rw [hv]
  clear hn hv
  go_wp2_with fail
  refine (s_DrawWorkingPoint _ _ _ _ (H_code.out.below (by go_grown))).mono ?_
  rintro e w1 ⟨a, n, c, L, p, q, rfl, ⟨hq, hn1, hn2⟩, hb⟩
  have HB_1 := hid (bstep (by go_grown) hb : Below w.heap.size w w1)
  have B_1 := HB_1
  have S_1 := HB_1.out.size
  clear hb
  have O_L := hid hq
  clear hq
  obtain ⟨x1, y1, z1, hR⟩ : ∃ x1 y1 z1, pointR L p q = (x1, y1, z1) := ⟨_, _, _, rfl⟩
  have HR1 := hid hR
  clear hR
  go_wp2_with fail
  refine (i_WorkingPoint_one _ _ _ p q L _ (O_L.out.below (by go_grown)) (by omega) x1 y1 z1 HR1.out).mono ?_
  rintro e w2 ⟨rfl, hb⟩
  have HB_2 := hid (bstep (by go_grown) hb : Below w1.heap.size w1 w2)
  have B_2 := hid (bstep B_1.out HB_2.out)
  have S_2 := HB_2.out.size
  clear hb
  have O_L_2 := hid (O_L.out.below HB_2.out)
  go_wp2_with fail
  refine (s_WorkingPoint_one _ _ _ p q L _ (O_L_2.out.below (by go_grown)) (by omega) x1 y1 z1 HR1.out).mono ?_
  rintro e w3 ⟨rfl, hb⟩
  have HB_3 := hid (bstep (by go_grown) hb : Below w2.heap.size w2 w3)
  have B_3 := hid (bstep B_2.out HB_3.out)
  have S_3 := HB_3.out.size
  clear hb
  have O_L_3 := hid (O_L_2.out.below HB_3.out)
  go_upto_region 6 with fail
  go_cut [85] (fun s85 wx => s85 = .bool false ∧ Hid (Below w3.heap.size w3 wx))
  case first => as_aux_lemma =>
    go_wp2_with fail
    go_meet
    exact ⟨rfl, hid (Below.refl _ _)⟩
  case rest => as_aux_lemma =>
    obtain ⟨rfl, hcu⟩ := hcut
    obtain ⟨w4, hW4⟩ : ∃ W, W = wc := ⟨_, rfl⟩
    subst hW4
    have HB_4 := hcu
    have B_4 := hid (bstep B_3.out HB_4.out)
    have S_4 := HB_4.out.size
    clear hcu
    obtain ⟨x2, y2, z2, hR⟩ : ∃ x2 y2 z2, wheadR L p q = (x2, y2, z2) := ⟨_, _, _, rfl⟩
    have HR2 := hid hR
    clear hR
    obtain rfl : z2 = z1 := whead_flag HR1.out HR2.out
    have O_L_4 := hid (O_L_3.out.below HB_4.out)
    go_wp2_with fail
    refine (i_WorkingHead_one _ _ _ p q L _ (O_L_4.out.below (by go_grown)) (by omega) x2 y2 z2 HR2.out).mono ?_
    rintro e w5 ⟨rfl, hb⟩
    have HB_5 := hid (bstep (by go_grown) hb : Below w4.heap.size w4 w5)
    have B_5 := hid (bstep B_4.out HB_5.out)
    have S_5 := HB_5.out.size
    clear hb
    have O_L_5 := hid (O_L_4.out.below HB_5.out)
    go_wp2_with fail
    refine (s_WorkingHead_one _ _ _ p q L _ (O_L_5.out.below (by go_grown)) (by omega) x2 y2 z2 HR2.out).mono ?_
    rintro e w6 ⟨rfl, hb⟩
    have HB_6 := hid (bstep (by go_grown) hb : Below w5.heap.size w5 w6)
    have B_6 := hid (bstep B_5.out HB_6.out)
    have S_6 := HB_6.out.size
    clear hb
    have O_L_6 := hid (O_L_5.out.below HB_6.out)
    go_upto_region 10 with fail
    go_cut [119] (fun s119 wx => s119 = .bool false ∧ Hid (Below w6.heap.size w6 wx))
    case first => as_aux_lemma =>
      go_wp2_with fail
      go_meet
      exact ⟨rfl, hid (Below.refl _ _)⟩
    case rest => as_aux_lemma =>
      obtain ⟨rfl, hcu⟩ := hcut
      obtain ⟨w7, hW7⟩ : ∃ W, W = wc := ⟨_, rfl⟩
      subst hW7
      have HB_7 := hcu
      have B_7 := hid (bstep B_6.out HB_7.out)
      have S_7 := HB_7.out.size
      clear hcu
      have O_L_7 := hid (O_L_6.out.below HB_7.out)
      go_upto_if 120 with (fail)
      go_cut [] (fun wx => Hid (Below w7.heap.size w7 wx))
      case first => as_aux_lemma =>
        cases z2
        · go_wp2_with fail
          go_meet
          exact hid (Below.refl _ _)
        · obtain ⟨⟨r1, r2⟩, r3, r4, r5, r6, r7, r8, r9, r10, r11⟩ := point_yes HR1.out HR2.out
          have HY := hid r11
          have m1 := mul_in (x := x2) (y := y1) (A := 4000000000) (B := 1001000) (by omega) (by omega)
          have m2 := mul_in (x := y2) (y := p * y1 + q * x1) (A := 1001000) (B := 4000000000) (by omega) (by omega)
          simp only [Int.reduceMul] at m1 m2
          have hw1 := IntWalk.i64_in (x2 * y1) (by omega)
          have hw2 := IntWalk.i64_in (p * y1) (by omega)
          have hw3 := IntWalk.i64_in (q * x1) (by omega)
          have hw4 := IntWalk.i64_in (p * y1 + q * x1) (by omega)
          have hw5 := IntWalk.i64_in (y2 * (p * y1 + q * x1)) (by omega)
          have he : (x2 * y1 != y2 * (p * y1 + q * x1)) = false := by simp [r7]
          clear r7 r11
          by_cases hy : y1 = 1
          · have HY1 := hid (HY.out hy)
            have hy1 : (y1 == 1) = true := by simp [hy]
            clear hy
            go_wp2_with fail
            refine (i_HeadAt_is _ _ _ x1 L _ (O_L_7.out.below (by go_grown)) (by omega) _ _ _ HY1.out).mono ?_
            rintro e w8 ⟨rfl, hb⟩
            have HB_8 := hid (bstep (by go_grown) hb : Below w7.heap.size w7 w8)
            have B_8 := hid (bstep B_7.out HB_8.out)
            have S_8 := HB_8.out.size
            clear hb
            go_wp2_with fail
            go_meet
            exact hid HB_8.out
          · have hy1 : (y1 == 1) = false := by simpa using hy
            clear hy
            go_wp2_with fail
            go_meet
            exact hid (Below.refl _ _)
      case rest => as_aux_lemma =>
        obtain ⟨w8, hW8⟩ : ∃ W, W = wc := ⟨_, rfl⟩
        subst hW8
        have HB_8 := hcut
        have B_8 := hid (bstep B_7.out HB_8.out)
        have S_8 := HB_8.out.size
        go_wp2_with fail
        refine (s_DrawParallelFlow _ _ _ _ ((H_code.out.below B_8.out).below (by go_grown))).mono ?_
        rintro e w9 ⟨a5, n5, c5, M5, q5, rfl, ⟨hq, hn5, hm5⟩, hb⟩
        have HB_9 := hid (bstep (by go_grown) hb : Below w8.heap.size w8 w9)
        have B_9 := hid (bstep B_8.out HB_9.out)
        have S_9 := HB_9.out.size
        clear hb
        have O_M5 := hid hq
        clear hq
        have HM5 := hid hm5
        clear hm5
        obtain ⟨x5, y5, z5, hR⟩ : ∃ x5 y5 z5, parR M5 q5 = (x5, y5, z5) := ⟨_, _, _, rfl⟩
        have HR5 := hid hR
        clear hR
        go_wp2_with fail
        refine (i_ParallelFlow _ _ _ q5 M5 _ (O_M5.out.below (by go_grown)) (lens_of hn5 HM5.out) x5 y5 z5 HR5.out).mono ?_
        rintro e w10 ⟨rfl, hb⟩
        have HB_10 := hid (bstep (by go_grown) hb : Below w9.heap.size w9 w10)
        have B_10 := hid (bstep B_9.out HB_10.out)
        have S_10 := HB_10.out.size
        clear hb
        have O_M5_10 := hid (O_M5.out.below HB_10.out)
        go_wp2_with fail
        refine (s_ParallelFlow _ _ _ q5 M5 _ (O_M5_10.out.below (by go_grown)) (lens_of hn5 HM5.out) x5 y5 z5 HR5.out).mono ?_
        rintro e w11 ⟨rfl, hb⟩
        have HB_11 := hid (bstep (by go_grown) hb : Below w10.heap.size w10 w11)
        have B_11 := hid (bstep B_10.out HB_11.out)
        have S_11 := HB_11.out.size
        clear hb
        have O_M5_11 := hid (O_M5_10.out.below HB_11.out)
        go_upto_region 22 with fail
        go_cut [186] (fun s186 wx => s186 = .bool false ∧ Hid (Below w11.heap.size w11 wx))
        case first => as_aux_lemma =>
          go_wp2_with fail
          go_meet
          exact ⟨rfl, hid (Below.refl _ _)⟩
        case rest => as_aux_lemma =>
          obtain ⟨rfl, hcu⟩ := hcut
          obtain ⟨w12, hW12⟩ : ∃ W, W = wc := ⟨_, rfl⟩
          subst hW12
          have HB_12 := hcu
          have B_12 := hid (bstep B_11.out HB_12.out)
          have S_12 := HB_12.out.size
          clear hcu
          have O_M5_12 := hid (O_M5_11.out.below HB_12.out)
          go_upto_if 187 with (fail)
          go_cut [] (fun wx => Hid (Below w12.heap.size w12 wx))
          case first => as_aux_lemma =>
            cases z5
            · go_wp2_with fail
              go_meet
              exact hid (Below.refl _ _)
            · obtain ⟨hln, ⟨b1, b2⟩, hs, hp1, ⟨z1, z2⟩, hp2, hpz, hz1, hz2⟩ := par_yes HR5.out
              dsimp only at hp1 hp2 hpz hz1 hz2
              obtain ⟨⟨hs1, hs2⟩, hs3, hs4⟩ := hs
              dsimp only at hs1 hs2 hs3 hs4
              have hnn := O_M5_12.out.1
              obtain ⟨gb, go, pa, pn, pc, e0, hgb, xg, hpg⟩ := LAt.get O_M5_12.out 0 (by omega)
              have HPG := hid hpg
              have HL7 := hid (HM5.out 0 (by omega))
              have h0n : 0 < n5 := by omega
              have HZ1 := hid hp1
              have HZ2 := hid hp2
              subst e0
              have hw1 := IntWalk.i64_in (z1 * b2) (by have := mul_in (x := z1) (y := b2) (A := 8000000000) (B := 1000) (by omega) (by omega); simp only [Int.reduceMul] at this; omega)
              have hw2 := IntWalk.i64_in (2 * b1) (by omega)
              have hw3 := IntWalk.i64_in (2 * b1 * z2) (by have := mul_in (x := 2 * b1) (y := z2) (A := 8000000) (B := 1000000) (by omega) (by omega); simp only [Int.reduceMul] at this; omega)
              have he : (z1 * b2 != 2 * b1 * z2) = false := by simp [hpz]
              simp only [Nat.add_zero] at xg
              clear hp1 hp2 hpz hpg hnn
              go_wp2_with fail
              refine (i_ParallelFlow _ _ _ q5 [lk M5 0] _ (LAt.one HPG.out) (lens_one HL7.out) b1 b2 true HZ1.out).mono ?_
              rintro e w13 ⟨rfl, hb⟩
              have HB_13 := hid (bstep (by go_grown) hb : Below w12.heap.size w12 w13)
              have B_13 := hid (bstep B_12.out HB_13.out)
              have S_13 := HB_13.out.size
              clear hb
              replace xg := (HB_13.out.cell (World.block_lt_of_cell? _ _ xg)).trans xg
              replace HPG := hid (HPG.out.below HB_13.out)
              have hgb13 : gb < w13.heap.size := World.block_lt_of_cell? _ _ xg
              go_upto_region 26 with fail
              refine wp_region_noPanic ?_
              refine wp_region_held_drew (S := (fun w' => w'.cell? ⟨gb, go, none⟩ = some (.slice pa pn pc))) (by kernel_rfl) (by exact xg) (fun hHeld => ?_)
              refine wpAnyH_take' (i := 0) (v := ?_) rfl (by kernel_rfl) (by kernel_rfl) (by kernel_rfl) (fun _ _ _ h => h) (Or.inl ⟨by rfl, ?_⟩) (by assumption) ?_
              rotate_left
              · (intro w' hSw; (try dsimp only at hSw); go_simp; all_goals with_reducible rfl)
              try simp only [Act.put, List.setIfInBounds_toArray, List.set_cons_zero, List.set_cons_succ]
              refine wpAnyH_take' (i := 1) (v := ?_) rfl (by kernel_rfl) (by kernel_rfl) (by kernel_rfl) (fun _ _ _ h => h) (Or.inl ⟨by rfl, ?_⟩) (by assumption) ?_
              rotate_left
              · (intro w' hSw; (try dsimp only at hSw); go_simp; all_goals with_reducible rfl)
              try simp only [Act.put, List.setIfInBounds_toArray, List.set_cons_zero, List.set_cons_succ]
              refine wpAnyH_take' (i := 2) (v := ?_) rfl (by kernel_rfl) (by kernel_rfl) (by kernel_rfl) (fun _ _ _ h => h) (Or.inl ⟨by rfl, ?_⟩) (by assumption) ?_
              rotate_left
              · (intro w' hSw; (try dsimp only at hSw); go_simp; all_goals with_reducible rfl)
              try simp only [Act.put, List.setIfInBounds_toArray, List.set_cons_zero, List.set_cons_succ]
              refine wpAnyH_take' (i := 3) (v := ?_) rfl (by kernel_rfl) (by kernel_rfl) (by kernel_rfl) (fun _ _ _ h => h) (Or.inl ⟨by rfl, ?_⟩) (by assumption) ?_
              rotate_left
              · (intro w' hSw; (try dsimp only at hSw); go_simp; all_goals with_reducible rfl)
              try simp only [Act.put, List.setIfInBounds_toArray, List.set_cons_zero, List.set_cons_succ]
              refine wpAnyH_take' (i := 4) (v := ?_) rfl (by kernel_rfl) (by kernel_rfl) (by kernel_rfl) (fun _ _ _ h => h) (Or.inl ⟨by rfl, ?_⟩) (by assumption) ?_
              rotate_left
              · (intro w' hSw; (try dsimp only at hSw); go_simp; all_goals with_reducible rfl)
              try simp only [Act.put, List.setIfInBounds_toArray, List.set_cons_zero, List.set_cons_succ]
              refine wpAnyH_take' (i := 5) (v := ?_) rfl (by kernel_rfl) (by kernel_rfl) (by kernel_rfl) (fun _ _ _ h => h) (Or.inl ⟨by rfl, ?_⟩) (by assumption) ?_
              rotate_left
              · (intro w' hSw; (try dsimp only at hSw); go_simp; all_goals with_reducible rfl)
              try simp only [Act.put, List.setIfInBounds_toArray, List.set_cons_zero, List.set_cons_succ]
              refine wpAnyH_take' (i := 7) (v := ?_) rfl (by kernel_rfl) (by kernel_rfl) (by kernel_rfl) (fun _ _ _ h => h) (Or.inl ⟨by rfl, ?_⟩) (by assumption) ?_
              rotate_left
              · (intro w' hSw; (try dsimp only at hSw); go_simp; all_goals with_reducible rfl)
              try simp only [Act.put, List.setIfInBounds_toArray, List.set_cons_zero, List.set_cons_succ]
              refine wpAnyH_ready (rs := [6]) (by kernel_rfl) (by simp) ?_
              refine allReadyH_cons' rfl (fun Kn hKn => ?_) AllReadyH.nil
              go_simp
              have BA := hid (by go_grown : Below w13.heap.size w13 ((w13.alloc (.cells #[.slice pa pn pc, .slice pa pn pc] 25)).drew))
              have LA := hid (show LAt ((w13.alloc (.cells #[.slice pa pn pc, .slice pa pn pc] 25)).drew) (some ⟨w13.heap.size, 0, none⟩) 2 [lk M5 0, lk M5 0] from LAt.below (LAt.two HPG.out) ((Below.refl _ _).drew))
              refine hKn.out _ _ ((BA.out.cell (World.block_lt_of_cell? _ _ xg)).trans xg) (fun hHeldN => ?_)
              clear hKn Kn hHeld
              have hHeld := hHeldN
              clear hHeldN
              try simp only [Act.put, List.setIfInBounds_toArray, List.set_cons_zero, List.set_cons_succ]
              generalize (w13.alloc (.cells #[.slice pa pn pc, .slice pa pn pc] 25)).drew = wz at *
              refine wpAnyH_ready (rs := [8]) (by kernel_rfl) (by simp) ?_
              refine allReadyH_cons' rfl (fun Kn hKn => ?_) AllReadyH.nil
              go_simp
              go_at_call 40
              refine (i_ParallelFlow _ _ _ _ [lk M5 0, lk M5 0] _ LA.out (lens_two HL7.out) _ _ _ HZ2.out).mono ?_
              rintro e wy ⟨rfl, hby⟩
              have BY := hid (bstep BA.out hby)
              refine hKn.out _ _ ((BY.out.cell (World.block_lt_of_cell? _ _ xg)).trans xg) (fun hHeldN => ?_)
              clear hKn Kn hHeld
              have hHeld := hHeldN
              clear hHeldN
              try simp only [Act.put, List.setIfInBounds_toArray, List.set_cons_zero, List.set_cons_succ]
              clear hby
              refine wpAnyH_take' (i := 9) (v := ?_) rfl (by kernel_rfl) (by kernel_rfl) (by kernel_rfl) (fun _ _ _ h => h) (Or.inl ⟨by rfl, ?_⟩) (by assumption) ?_
              rotate_left
              · (intro w' hSw; (try dsimp only at hSw); go_simp; all_goals with_reducible rfl)
              try simp only [Act.put, List.setIfInBounds_toArray, List.set_cons_zero, List.set_cons_succ]
              refine wpAnyH_take' (i := 10) (v := ?_) rfl (by kernel_rfl) (by kernel_rfl) (by kernel_rfl) (fun _ _ _ h => h) (Or.inl ⟨by rfl, ?_⟩) (by assumption) ?_
              rotate_left
              · (intro w' hSw; (try dsimp only at hSw); go_simp; all_goals with_reducible rfl)
              try simp only [Act.put, List.setIfInBounds_toArray, List.set_cons_zero, List.set_cons_succ]
              refine wpAnyH_take' (i := 11) (v := ?_) rfl (by kernel_rfl) (by kernel_rfl) (by kernel_rfl) (fun _ _ _ h => h) (Or.inl ⟨by rfl, ?_⟩) (by assumption) ?_
              rotate_left
              · (intro w' hSw; (try dsimp only at hSw); go_simp; all_goals with_reducible rfl)
              try simp only [Act.put, List.setIfInBounds_toArray, List.set_cons_zero, List.set_cons_succ]
              refine wpAnyH_take' (i := 12) (v := ?_) rfl (by kernel_rfl) (by kernel_rfl) (by kernel_rfl) (fun _ _ _ h => h) (Or.inl ⟨by rfl, ?_⟩) (by assumption) ?_
              rotate_left
              · (intro w' hSw; (try dsimp only at hSw); go_simp; all_goals with_reducible rfl)
              try simp only [Act.put, List.setIfInBounds_toArray, List.set_cons_zero, List.set_cons_succ]
              refine wpAnyH_take' (i := 13) (v := ?_) rfl (by kernel_rfl) (by kernel_rfl) (by kernel_rfl) (fun _ _ _ h => h) (Or.inl ⟨by rfl, ?_⟩) (by assumption) ?_
              rotate_left
              · (intro w' hSw; (try dsimp only at hSw); go_simp; all_goals with_reducible rfl)
              try simp only [Act.put, List.setIfInBounds_toArray, List.set_cons_zero, List.set_cons_succ]
              refine wpAnyH_take' (i := 14) (v := ?_) rfl (by kernel_rfl) (by kernel_rfl) (by kernel_rfl) (fun _ _ _ h => h) (Or.inl ⟨by rfl, ?_⟩) (by assumption) ?_
              rotate_left
              · (intro w' hSw; (try dsimp only at hSw); go_simp; all_goals with_reducible rfl)
              try simp only [Act.put, List.setIfInBounds_toArray, List.set_cons_zero, List.set_cons_succ]
              refine wpAnyH_take' (i := 15) (v := ?_) rfl (by kernel_rfl) (by kernel_rfl) (by kernel_rfl) (fun _ _ _ h => h) (Or.inl ⟨by rfl, ?_⟩) (by assumption) ?_
              rotate_left
              · (intro w' hSw; (try dsimp only at hSw); go_simp; all_goals with_reducible rfl)
              try simp only [Act.put, List.setIfInBounds_toArray, List.set_cons_zero, List.set_cons_succ]
              refine wpAnyH_done (by kernel_rfl) ?_ _
              refine NoPanic.normal ?_
              clear hHeld
              clear xg
              go_wp2_with fail
              go_meet
              exact hid (bstep HB_13.out BY.out)
          case rest => as_aux_lemma =>
            obtain ⟨w13, hW13⟩ : ∃ W, W = wc := ⟨_, rfl⟩
            subst hW13
            have HB_13 := hcut
            have B_13 := hid (bstep B_12.out HB_13.out)
            have S_13 := HB_13.out.size
            go_wp2_with fail
            refine (s_DrawSeriesHead _ _ _ _ ((H_code.out.below B_13.out).below (by go_grown))).mono ?_
            rintro e w14 ⟨a6, n6, c6, M6, q6, rfl, ⟨hq, hn6, hm6⟩, hb⟩
            have HB_14 := hid (bstep (by go_grown) hb : Below w13.heap.size w13 w14)
            have B_14 := hid (bstep B_13.out HB_14.out)
            have S_14 := HB_14.out.size
            clear hb
            have O_M6 := hid hq
            clear hq
            have HM6 := hid hm6
            clear hm6
            obtain ⟨x6, y6, z6, hR⟩ : ∃ x6 y6 z6, seriesR M6 q6 = (x6, y6, z6) := ⟨_, _, _, rfl⟩
            have HR6 := hid hR
            clear hR
            go_wp2_with fail
            refine (i_SeriesHead _ _ _ q6 M6 _ (O_M6.out.below (by go_grown)) (lens_of hn6 HM6.out) x6 y6 z6 HR6.out).mono ?_
            rintro e w15 ⟨rfl, hb⟩
            have HB_15 := hid (bstep (by go_grown) hb : Below w14.heap.size w14 w15)
            have B_15 := hid (bstep B_14.out HB_15.out)
            have S_15 := HB_15.out.size
            clear hb
            have O_M6_15 := hid (O_M6.out.below HB_15.out)
            go_wp2_with fail
            refine (s_SeriesHead _ _ _ q6 M6 _ (O_M6_15.out.below (by go_grown)) (lens_of hn6 HM6.out) x6 y6 z6 HR6.out).mono ?_
            rintro e w16 ⟨rfl, hb⟩
            have HB_16 := hid (bstep (by go_grown) hb : Below w15.heap.size w15 w16)
            have B_16 := hid (bstep B_15.out HB_16.out)
            have S_16 := HB_16.out.size
            clear hb
            have O_M6_16 := hid (O_M6_15.out.below HB_16.out)
            go_upto_region 32 with fail
            go_cut [258] (fun s258 wx => s258 = .bool false ∧ Hid (Below w16.heap.size w16 wx))
            case first => as_aux_lemma =>
              go_wp2_with fail
              go_meet
              exact ⟨rfl, hid (Below.refl _ _)⟩
            case rest => as_aux_lemma =>
              obtain ⟨rfl, hcu⟩ := hcut
              obtain ⟨w17, hW17⟩ : ∃ W, W = wc := ⟨_, rfl⟩
              subst hW17
              have HB_17 := hcu
              have B_17 := hid (bstep B_16.out HB_17.out)
              have S_17 := HB_17.out.size
              clear hcu
              have O_M6_17 := hid (O_M6_16.out.below HB_17.out)
              cases z6
              · go_wp2
                go_ret
                exact ⟨rfl, B_17.out⟩
              · obtain ⟨hln, ⟨b1, b2⟩, hs, hp1, ⟨z1, z2⟩, hp2, hpz, hz1, hz2⟩ := series_yes HR6.out
                dsimp only at hp1 hp2 hpz hz1 hz2
                obtain ⟨⟨hs1, hs2⟩, hs3, hs4⟩ := hs
                dsimp only at hs1 hs2 hs3 hs4
                have hnn := O_M6_17.out.1
                obtain ⟨gb, go, pa, pn, pc, e0, hgb, xg, hpg⟩ := LAt.get O_M6_17.out 0 (by omega)
                have HPG := hid hpg
                have HL7 := hid (HM6.out 0 (by omega))
                have h0n : 0 < n6 := by omega
                have HZ1 := hid hp1
                have HZ2 := hid hp2
                subst e0
                have hw1 := IntWalk.i64_in (z1 * b2) (by have := mul_in (x := z1) (y := b2) (A := 8000000000) (B := 1000) (by omega) (by omega); simp only [Int.reduceMul] at this; omega)
                have hw2 := IntWalk.i64_in (2 * b1) (by omega)
                have hw3 := IntWalk.i64_in (2 * b1 * z2) (by have := mul_in (x := 2 * b1) (y := z2) (A := 8000000) (B := 1000000) (by omega) (by omega); simp only [Int.reduceMul] at this; omega)
                have he : (z1 * b2 == 2 * b1 * z2) = true := by simp [hpz]
                simp only [Nat.add_zero] at xg
                clear hp1 hp2 hpz hpg hnn
                go_wp2_with fail
                refine (i_HeadAt_is _ _ _ q6 (lk M6 0) _ (HPG.out.below (by go_grown)) (by have := HL7.out; have := HPG.out.1; omega) b1 b2 true HZ1.out).mono ?_
                rintro e w18 ⟨rfl, hb⟩
                have HB_18 := hid (bstep (by go_grown) hb : Below w17.heap.size w17 w18)
                have B_18 := hid (bstep B_17.out HB_18.out)
                have S_18 := HB_18.out.size
                clear hb
                replace xg := (HB_18.out.cell (World.block_lt_of_cell? _ _ xg)).trans xg
                replace HPG := hid (HPG.out.below HB_18.out)
                have hgb18 : gb < w18.heap.size := World.block_lt_of_cell? _ _ xg
                go_upto_region 36 with fail
                refine wp_region_noPanic ?_
                refine wp_region_held_drew (S := (fun w' => w'.cell? ⟨gb, go, none⟩ = some (.slice pa pn pc))) (by kernel_rfl) (by exact xg) (fun hHeld => ?_)
                refine wpAnyH_take' (i := 0) (v := ?_) rfl (by kernel_rfl) (by kernel_rfl) (by kernel_rfl) (fun _ _ _ h => h) (Or.inl ⟨by rfl, ?_⟩) (by assumption) ?_
                rotate_left
                · (intro w' hSw; (try dsimp only at hSw); go_simp; all_goals with_reducible rfl)
                try simp only [Act.put, List.setIfInBounds_toArray, List.set_cons_zero, List.set_cons_succ]
                refine wpAnyH_take' (i := 1) (v := ?_) rfl (by kernel_rfl) (by kernel_rfl) (by kernel_rfl) (fun _ _ _ h => h) (Or.inl ⟨by rfl, ?_⟩) (by assumption) ?_
                rotate_left
                · (intro w' hSw; (try dsimp only at hSw); go_simp; all_goals with_reducible rfl)
                try simp only [Act.put, List.setIfInBounds_toArray, List.set_cons_zero, List.set_cons_succ]
                refine wpAnyH_take' (i := 2) (v := ?_) rfl (by kernel_rfl) (by kernel_rfl) (by kernel_rfl) (fun _ _ _ h => h) (Or.inl ⟨by rfl, ?_⟩) (by assumption) ?_
                rotate_left
                · (intro w' hSw; (try dsimp only at hSw); go_simp; all_goals with_reducible rfl)
                try simp only [Act.put, List.setIfInBounds_toArray, List.set_cons_zero, List.set_cons_succ]
                refine wpAnyH_take' (i := 3) (v := ?_) rfl (by kernel_rfl) (by kernel_rfl) (by kernel_rfl) (fun _ _ _ h => h) (Or.inl ⟨by rfl, ?_⟩) (by assumption) ?_
                rotate_left
                · (intro w' hSw; (try dsimp only at hSw); go_simp; all_goals with_reducible rfl)
                try simp only [Act.put, List.setIfInBounds_toArray, List.set_cons_zero, List.set_cons_succ]
                refine wpAnyH_take' (i := 4) (v := ?_) rfl (by kernel_rfl) (by kernel_rfl) (by kernel_rfl) (fun _ _ _ h => h) (Or.inl ⟨by rfl, ?_⟩) (by assumption) ?_
                rotate_left
                · (intro w' hSw; (try dsimp only at hSw); go_simp; all_goals with_reducible rfl)
                try simp only [Act.put, List.setIfInBounds_toArray, List.set_cons_zero, List.set_cons_succ]
                refine wpAnyH_take' (i := 5) (v := ?_) rfl (by kernel_rfl) (by kernel_rfl) (by kernel_rfl) (fun _ _ _ h => h) (Or.inl ⟨by rfl, ?_⟩) (by assumption) ?_
                rotate_left
                · (intro w' hSw; (try dsimp only at hSw); go_simp; all_goals with_reducible rfl)
                try simp only [Act.put, List.setIfInBounds_toArray, List.set_cons_zero, List.set_cons_succ]
                refine wpAnyH_take' (i := 7) (v := ?_) rfl (by kernel_rfl) (by kernel_rfl) (by kernel_rfl) (fun _ _ _ h => h) (Or.inl ⟨by rfl, ?_⟩) (by assumption) ?_
                rotate_left
                · (intro w' hSw; (try dsimp only at hSw); go_simp; all_goals with_reducible rfl)
                try simp only [Act.put, List.setIfInBounds_toArray, List.set_cons_zero, List.set_cons_succ]
                refine wpAnyH_ready (rs := [6]) (by kernel_rfl) (by simp) ?_
                refine allReadyH_cons' rfl (fun Kn hKn => ?_) AllReadyH.nil
                go_simp
                have BA := hid (by go_grown : Below w18.heap.size w18 ((w18.alloc (.cells #[.slice pa pn pc, .slice pa pn pc] 25)).drew))
                have LA := hid (show LAt ((w18.alloc (.cells #[.slice pa pn pc, .slice pa pn pc] 25)).drew) (some ⟨w18.heap.size, 0, none⟩) 2 [lk M6 0, lk M6 0] from LAt.below (LAt.two HPG.out) ((Below.refl _ _).drew))
                refine hKn.out _ _ ((BA.out.cell (World.block_lt_of_cell? _ _ xg)).trans xg) (fun hHeldN => ?_)
                clear hKn Kn hHeld
                have hHeld := hHeldN
                clear hHeldN
                try simp only [Act.put, List.setIfInBounds_toArray, List.set_cons_zero, List.set_cons_succ]
                generalize (w18.alloc (.cells #[.slice pa pn pc, .slice pa pn pc] 25)).drew = wz at *
                refine wpAnyH_ready (rs := [8]) (by kernel_rfl) (by simp) ?_
                refine allReadyH_cons' rfl (fun Kn hKn => ?_) AllReadyH.nil
                go_simp
                go_at_call 37
                refine (i_SeriesHead _ _ _ _ [lk M6 0, lk M6 0] _ LA.out (lens_two HL7.out) _ _ _ HZ2.out).mono ?_
                rintro e wy ⟨rfl, hby⟩
                have BY := hid (bstep BA.out hby)
                refine hKn.out _ _ ((BY.out.cell (World.block_lt_of_cell? _ _ xg)).trans xg) (fun hHeldN => ?_)
                clear hKn Kn hHeld
                have hHeld := hHeldN
                clear hHeldN
                try simp only [Act.put, List.setIfInBounds_toArray, List.set_cons_zero, List.set_cons_succ]
                clear hby
                refine wpAnyH_take' (i := 9) (v := ?_) rfl (by kernel_rfl) (by kernel_rfl) (by kernel_rfl) (fun _ _ _ h => h) (Or.inl ⟨by rfl, ?_⟩) (by assumption) ?_
                rotate_left
                · (intro w' hSw; (try dsimp only at hSw); go_simp; all_goals with_reducible rfl)
                try simp only [Act.put, List.setIfInBounds_toArray, List.set_cons_zero, List.set_cons_succ]
                refine wpAnyH_take' (i := 10) (v := ?_) rfl (by kernel_rfl) (by kernel_rfl) (by kernel_rfl) (fun _ _ _ h => h) (Or.inl ⟨by rfl, ?_⟩) (by assumption) ?_
                rotate_left
                · (intro w' hSw; (try dsimp only at hSw); go_simp; all_goals with_reducible rfl)
                try simp only [Act.put, List.setIfInBounds_toArray, List.set_cons_zero, List.set_cons_succ]
                refine wpAnyH_take' (i := 11) (v := ?_) rfl (by kernel_rfl) (by kernel_rfl) (by kernel_rfl) (fun _ _ _ h => h) (Or.inl ⟨by rfl, ?_⟩) (by assumption) ?_
                rotate_left
                · (intro w' hSw; (try dsimp only at hSw); go_simp; all_goals with_reducible rfl)
                try simp only [Act.put, List.setIfInBounds_toArray, List.set_cons_zero, List.set_cons_succ]
                refine wpAnyH_take' (i := 12) (v := ?_) rfl (by kernel_rfl) (by kernel_rfl) (by kernel_rfl) (fun _ _ _ h => h) (Or.inl ⟨by rfl, ?_⟩) (by assumption) ?_
                rotate_left
                · (intro w' hSw; (try dsimp only at hSw); go_simp; all_goals with_reducible rfl)
                try simp only [Act.put, List.setIfInBounds_toArray, List.set_cons_zero, List.set_cons_succ]
                refine wpAnyH_take' (i := 13) (v := ?_) rfl (by kernel_rfl) (by kernel_rfl) (by kernel_rfl) (fun _ _ _ h => h) (Or.inl ⟨by rfl, ?_⟩) (by assumption) ?_
                rotate_left
                · (intro w' hSw; (try dsimp only at hSw); go_simp; all_goals with_reducible rfl)
                try simp only [Act.put, List.setIfInBounds_toArray, List.set_cons_zero, List.set_cons_succ]
                refine wpAnyH_take' (i := 14) (v := ?_) rfl (by kernel_rfl) (by kernel_rfl) (by kernel_rfl) (fun _ _ _ h => h) (Or.inl ⟨by rfl, ?_⟩) (by assumption) ?_
                rotate_left
                · (intro w' hSw; (try dsimp only at hSw); go_simp; all_goals with_reducible rfl)
                try simp only [Act.put, List.setIfInBounds_toArray, List.set_cons_zero, List.set_cons_succ]
                refine wpAnyH_take' (i := 15) (v := ?_) rfl (by kernel_rfl) (by kernel_rfl) (by kernel_rfl) (fun _ _ _ h => h) (Or.inl ⟨by rfl, ?_⟩) (by assumption) ?_
                rotate_left
                · (intro w' hSw; (try dsimp only at hSw); go_simp; all_goals with_reducible rfl)
                try simp only [Act.put, List.setIfInBounds_toArray, List.set_cons_zero, List.set_cons_succ]
                refine wpAnyH_done (by kernel_rfl) ?_ _
                refine NoPanic.normal ?_
                clear hHeld
                clear xg
                go_wp2
                go_ret
                exact ⟨rfl, bstep B_18.out BY.out⟩

set_option maxRecDepth 100000 in
theorem fnPumps_lifted (os : Os) (started : os.Started) (H : Type) (enc : TypeId × Value → H) :
    ReturnsInHanded {} Try.checked os 13 .any (Rows.fnPumpsSpec.pre6 enc Try.prog Try.f13 Rows.fnPumpsRow.domain false) (Rows.fnPumpsSpec.post enc Try.prog Try.f13 false true false false) := by
  refine returnsInHanded_of_change (C := Try.checked) Try.own started (by kernel_rfl) Try.func13
    (ChangeSpec.witness6 (enc := enc) (C := Try.checked) false ⟨#[], #[.slice none 0 0], []⟩ 8 (by kernel_rfl) (by kernel_rfl) (by kernel_rfl) (by kernel_rfl)) ?_
  intro W base args ds gs before hval0 hW _ _
  have hval : ∀ (j : Nat) t v, Try.f13.params[j]? = some t → args[j]? = some v → Value.okWide Try.prog W .any base t v := hval0
  have hW' : DataW.Whole enc Try.prog Try.f13.params.toList Rows.fnPumpsSpec.vars false W args.toList ds gs before := hW
  obtain ⟨p, q, hA0, hV, rfl, hfz, hnd⟩ := hW
  have hlt : ∀ x ∈ p, x.block < W.heap.size := fun x hx => hW'.lt x (by simp [hx])
  have hA : DataW.TrodAll enc Try.prog W 0 (fun _ => true) true Try.f13.params.toList args.toList ds p := hA0
  rw [Try.params13] at hA hval
  clear hA0 hval0
  obtain ⟨v0, d0, rfl, rfl, h0⟩ := trodAll_one hA
  obtain ⟨rfl, rfl⟩ := trodVars_none hV
  obtain ⟨x0, n0, k0, rfl, g0⟩ := open_bytes (hval 0 47 v0 rfl rfl) h0
  refine (law_FnPumps x0 n0 k0 W g0).mono fun e W' ⟨he, hb⟩ => ?_
  subst he
  exact ⟨_, rfl, law_post rfl rfl (by kernel_rfl) hW' rfl rfl rfl hb⟩

theorem fnPumps_proved : Rows.FnPumpsSaid :=
  OpenClaim.holds_of_wide 13 Try.f13 rfl rfl rfl rfl rfl rfl rfl ⟨rfl, rfl, rfl, rfl, rfl⟩ rfl rfl rfl rfl rfl (by kernel_rfl) Try.func13 (by kernel_rfl)
    (of_decide_eq_true (by kernel_rfl)) (by unfold Func.isWrapper; first | (rw [if_pos (by decide +kernel)]; kernel_rfl) | (rw [if_neg (by decide +kernel)]; exact ⟨rfl, rfl⟩))
    (fun os started H enc _ => fnPumps_lifted os started H enc)

end Go.Proofs.Ytpcbeapajlchgaa

