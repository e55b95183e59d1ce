/-
  Networks: which are valid, in the program.
-/
import Derived.Test.YtheaagbffphdmaaNetA
set_option linter.unusedVariables false
set_option linter.unusedSimpArgs false
namespace Go.Proofs.Ytheaagbffphdmaa
open Go.RowKit

set_option maxRecDepth 100000 in
set_option maxHeartbeats 8000000 in
theorem i_IsValidNetwork (N : Int) (a : Option Addr) (n c : Nat) (l : List Pip) (w : World) (h : QAt w a n l) (hn : n ≤ 1048576) :
    Calls Try.prog 53 #[.agg #[.int .i64 N, .slice a n c]] w fun e w' => e = .returned (.bool (goodNet N l)) ∧ Below w.heap.size w w' := by
  have hl := h.1
  have H := hid h
  clear h
  cases h1 : inR N 1 8
  · have E := hid (show false = goodNet N l by simp [goodNet, h1])
    have H1 := hid h1
    clear h1 hl
    go_enter Try.func53, Try.ntmps53
    go_wp2_with fail
    refine (i_inside _ _ _ _).mono ?_
    rintro e _ ⟨rfl, rfl⟩
    rw [H1.out]
    go_wp2
    go_ret
    exact ⟨ret_bool E.out, by go_grown⟩
  · by_cases h2 : 10 < n
    · have hx : ¬ l.length ≤ 10 := by omega
      have E := hid (show false = goodNet N l by simp [goodNet, hx])
      have H1 := hid h1
      clear h1 hl hx
      go_enter Try.func53, Try.ntmps53
      go_wp2_with fail
      refine (i_inside _ _ _ _).mono ?_
      rintro e _ ⟨rfl, rfl⟩
      rw [H1.out]
      go_wp2
      go_ret
      exact ⟨ret_bool E.out, by go_grown⟩
    · have H0 := hid h1
      have HL := hid hl
      clear h1 hl
      go_enter Try.func53, Try.ntmps53
      go_wp2_with fail
      refine (i_inside _ _ _ _).mono ?_
      rintro e _ ⟨rfl, rfl⟩
      rw [H0.out]
      go_wp2
      go_loopg [18] n (fun g i wr => ∃ k : Nat, k ≤ n ∧ g = n - k ∧ i = .int .i64 k ∧ Hid (Below w.heap.size w wr ∧ wr.cell? ⟨w.heap.size, 0, none⟩ = some (.int .i64 N) ∧ wr.cell? ⟨w.heap.size, 1, none⟩ = some (.slice a n c)) ∧ Hid (∀ j, j < k → okQ N l j = true))
      case atStart => exact ⟨0, Nat.zero_le _, rfl, rfl, hid ⟨(Below.refl _ _).alloc (Nat.le_refl _) _, cell_of_row _ _ 0 _ _ (0, 0) (heap_alloc_new _ _), cell_of_row _ _ 1 _ _ (0, 0) (heap_alloc_new _ _)⟩, hid (fun j hj => absurd hj (by omega))⟩
      case round =>
        obtain ⟨k, hk, rfl, rfl, hB, hh⟩ := hrel
        by_cases hlt : k < n
        · obtain ⟨b0, off0, rfl, hbw, x0, x1, x2, x3⟩ := QAt.get (H.out.below hB.out.1) k hlt
          obtain ⟨_, _, e1, _, y0, -⟩ := QAt.get (H.out.below hB.out.1) (k - 1) (by omega)
          cases e1
          obtain ⟨-, n0, n1⟩ := hB.out
          have hz0 : w.heap.size < wr.heap.size := World.block_lt_of_cell? wr _ n0
          go_upto_region 6 with fail
          obtain ⟨X0, -⟩ := bcell (Below.alloc (Below.refl wr.heap.size wr) (Nat.le_refl _) (.cells #[.int .i64 (pp l k).1, .int .i64 (pp l k).2.1, .int .i64 (pp l k).2.2.1, .int .i64 (pp l k).2.2.2] 65))
          have X := hid (show NetI w wr N b0 off0 n c k l (wr.alloc (.cells #[.int .i64 (pp l k).1, .int .i64 (pp l k).2.1, .int .i64 (pp l k).2.2.1, .int .i64 (pp l k).2.2.2] 65)).drew from ⟨(hB.out.1.alloc hB.out.1.size _).drew, (X0 _ _ (by omega)).trans n0, (X0 _ _ (by omega)).trans n1, cell_of_row _ _ 0 _ _ (0, 0) (heap_alloc_new _ _), cell_of_row _ _ 1 _ _ (0, 0) (heap_alloc_new _ _), cell_of_row _ _ 2 _ _ (0, 0) (heap_alloc_new _ _), cell_of_row _ _ 3 _ _ (0, 0) (heap_alloc_new _ _), (X0 _ _ (by omega)).trans y0⟩)
          clear X0 x0 x1 x2 x3 y0 n0 n1
          by_cases hok : okQ N l k = true
          · have hq0 := hok
            simp only [okQ, okPipe, Bool.and_eq_true, Bool.or_eq_true, decide_eq_true_eq] at hq0
            obtain ⟨⟨⟨⟨⟨c1, c2⟩, c3⟩, c4⟩, c5⟩, c6⟩ := hq0
            have c4b : ((pp l k).2.1 == (pp l k).2.2.1) = false := by simpa using c4
            have H1 := hid c1
            have H2 := hid c2
            have H3 := hid c3
            have H5 := hid c5
            clear c1 c2 c3 c5
            by_cases hk0 : k = 0
            · have hkp : ¬ 0 < k := by omega
              clear c6 hk0
              refine wp_region_calm (C := (fun w' => Below w.heap.size w w' ∧ w'.cell? ⟨w.heap.size, 0, none⟩ = some (.int .i64 N) ∧ w'.cell? ⟨w.heap.size, 1, none⟩ = some (.slice (some ⟨b0, off0, none⟩) n c) ∧ w'.cell? ⟨wr.heap.size, 0, none⟩ = some (.int .i64 (pp l k).1) ∧ w'.cell? ⟨wr.heap.size, 1, none⟩ = some (.int .i64 (pp l k).2.1) ∧ w'.cell? ⟨wr.heap.size, 2, none⟩ = some (.int .i64 (pp l k).2.2.1) ∧ w'.cell? ⟨wr.heap.size, 3, none⟩ = some (.int .i64 (pp l k).2.2.2) ∧ w'.cell? ⟨b0, off0 + (k - 1) * 4, none⟩ = some (.int .i64 (pp l (k - 1)).1))) (by kernel_rfl) (by kernel_rfl) (X.out) ?_
              repeat
                first
                  | go_big_quiet_skip
                  | (go_big_quiet_want
                     first
                       | (unfold Oper.quiet
                          apply Exists.intro
                          refine ⟨fun wq hq => ?_, ?_⟩
                          · (try dsimp only at hq
                             simp [go_sem, Oper.quietAt, Oper.quietUpon, BigFrame.eval_const, BigFrame.eval_global, BigFrame.eval_func, ↓IntWalk.iteOmega, *]
                             first | done | rfl | (first | (refine calm_same hq (i_inside _ _ _ _) (by first | rw [H1.out] | rw [H5.out])) | (refine calm_call hq (NetI.keep w wr N b0 off0 n c k l) (i_has _ _ _ _ _ _) (by first | rw [H2.out] | rw [H3.out]))))
                          simp only [Act.put, List.setIfInBounds_toArray, List.set_cons_succ, List.set_cons_zero]
                          go_big_quiet_on))
              refine wpQuiet_nil ?_
              intro wc hcalm
              try dsimp only at hcalm
              have HC := hid (⟨hcalm.1, hcalm.2.1, hcalm.2.2.1⟩ : Below w.heap.size w wc ∧ wc.cell? ⟨w.heap.size, 0, none⟩ = some (.int .i64 N) ∧ wc.cell? ⟨w.heap.size, 1, none⟩ = some (.slice (some ⟨b0, off0, none⟩) n c))
              clear hcalm
              go_wp2
              go_roundg (n - (k + 1))
              case rel => exact ⟨k + 1, by omega, rfl, by go_num, HC, hid (all_nextN hh.out hok)⟩
              case measure => omega
            · have hlt6 : (pp l (k - 1)).1 < (pp l k).1 := by rcases c6 with h | h; (exact absurd h hk0); exact h
              have hle6 : ¬ (pp l k).1 ≤ (pp l (k - 1)).1 := by omega
              clear c6
              have hkp : 0 < k := by omega
              have hk1 : k - 1 < n := by omega
              have hw : IntKind.i64.wrap ((k : Int) - 1) = ((k - 1 : Nat) : Int) := (IntWalk.i64_in _ (by omega)).trans (by omega)
              refine wp_region_calm (C := (fun w' => Below w.heap.size w w' ∧ w'.cell? ⟨w.heap.size, 0, none⟩ = some (.int .i64 N) ∧ w'.cell? ⟨w.heap.size, 1, none⟩ = some (.slice (some ⟨b0, off0, none⟩) n c) ∧ w'.cell? ⟨wr.heap.size, 0, none⟩ = some (.int .i64 (pp l k).1) ∧ w'.cell? ⟨wr.heap.size, 1, none⟩ = some (.int .i64 (pp l k).2.1) ∧ w'.cell? ⟨wr.heap.size, 2, none⟩ = some (.int .i64 (pp l k).2.2.1) ∧ w'.cell? ⟨wr.heap.size, 3, none⟩ = some (.int .i64 (pp l k).2.2.2) ∧ w'.cell? ⟨b0, off0 + (k - 1) * 4, none⟩ = some (.int .i64 (pp l (k - 1)).1))) (by kernel_rfl) (by kernel_rfl) (X.out) ?_
              repeat
                first
                  | go_big_quiet_skip
                  | (go_big_quiet_want
                     first
                       | (unfold Oper.quiet
                          apply Exists.intro
                          refine ⟨fun wq hq => ?_, ?_⟩
                          · (try dsimp only at hq
                             simp [go_sem, Oper.quietAt, Oper.quietUpon, BigFrame.eval_const, BigFrame.eval_global, BigFrame.eval_func, ↓IntWalk.iteOmega, *]
                             first | done | rfl | (first | (refine calm_same hq (i_inside _ _ _ _) (by first | rw [H1.out] | rw [H5.out])) | (refine calm_call hq (NetI.keep w wr N b0 off0 n c k l) (i_has _ _ _ _ _ _) (by first | rw [H2.out] | rw [H3.out]))))
                          simp only [Act.put, List.setIfInBounds_toArray, List.set_cons_succ, List.set_cons_zero]
                          go_big_quiet_on))
              refine wpQuiet_nil ?_
              intro wc hcalm
              try dsimp only at hcalm
              have HC := hid (⟨hcalm.1, hcalm.2.1, hcalm.2.2.1⟩ : Below w.heap.size w wc ∧ wc.cell? ⟨w.heap.size, 0, none⟩ = some (.int .i64 N) ∧ wc.cell? ⟨w.heap.size, 1, none⟩ = some (.slice (some ⟨b0, off0, none⟩) n c))
              clear hcalm
              go_wp2
              go_roundg (n - (k + 1))
              case rel => exact ⟨k + 1, by omega, rfl, by go_num, HC, hid (all_nextN hh.out hok)⟩
              case measure => omega
          · have E := hid (goodNet_bad (k := k) (by have := HL.out; omega) (by simpa using hok) : goodNet N l = false).symm
            cases c1 : inR (pp l k).1 1 99
            · have H1 := hid c1
              clear c1 hok
              refine wp_region_calm (C := (fun w' => Below w.heap.size w w' ∧ w'.cell? ⟨w.heap.size, 0, none⟩ = some (.int .i64 N) ∧ w'.cell? ⟨w.heap.size, 1, none⟩ = some (.slice (some ⟨b0, off0, none⟩) n c) ∧ w'.cell? ⟨wr.heap.size, 0, none⟩ = some (.int .i64 (pp l k).1) ∧ w'.cell? ⟨wr.heap.size, 1, none⟩ = some (.int .i64 (pp l k).2.1) ∧ w'.cell? ⟨wr.heap.size, 2, none⟩ = some (.int .i64 (pp l k).2.2.1) ∧ w'.cell? ⟨wr.heap.size, 3, none⟩ = some (.int .i64 (pp l k).2.2.2) ∧ w'.cell? ⟨b0, off0 + (k - 1) * 4, none⟩ = some (.int .i64 (pp l (k - 1)).1))) (by kernel_rfl) (by kernel_rfl) (X.out) ?_
              repeat
                first
                  | go_big_quiet_skip
                  | (go_big_quiet_want
                     first
                       | (unfold Oper.quiet
                          apply Exists.intro
                          refine ⟨fun wq hq => ?_, ?_⟩
                          · (try dsimp only at hq
                             simp [go_sem, Oper.quietAt, Oper.quietUpon, BigFrame.eval_const, BigFrame.eval_global, BigFrame.eval_func, ↓IntWalk.iteOmega, *]
                             first | done | rfl | (first | (refine calm_same hq (i_inside _ _ _ _) (by first | rw [H1.out]))))
                          simp only [Act.put, List.setIfInBounds_toArray, List.set_cons_succ, List.set_cons_zero]
                          go_big_quiet_on))
              refine wpQuiet_nil ?_
              intro wc hcalm
              try dsimp only at hcalm
              have HC := hid (⟨hcalm.1, hcalm.2.1, hcalm.2.2.1⟩ : Below w.heap.size w wc ∧ wc.cell? ⟨w.heap.size, 0, none⟩ = some (.int .i64 N) ∧ wc.cell? ⟨w.heap.size, 1, none⟩ = some (.slice (some ⟨b0, off0, none⟩) n c))
              clear hcalm
              go_wp2
              go_ret
              exact ⟨ret_bool E.out, HC.out.1⟩
            · cases c2 : inR (pp l k).2.1 1 N
              · have H1 := hid c1
                have H2 := hid c2
                clear c1 c2 hok
                refine wp_region_calm (C := (fun w' => Below w.heap.size w w' ∧ w'.cell? ⟨w.heap.size, 0, none⟩ = some (.int .i64 N) ∧ w'.cell? ⟨w.heap.size, 1, none⟩ = some (.slice (some ⟨b0, off0, none⟩) n c) ∧ w'.cell? ⟨wr.heap.size, 0, none⟩ = some (.int .i64 (pp l k).1) ∧ w'.cell? ⟨wr.heap.size, 1, none⟩ = some (.int .i64 (pp l k).2.1) ∧ w'.cell? ⟨wr.heap.size, 2, none⟩ = some (.int .i64 (pp l k).2.2.1) ∧ w'.cell? ⟨wr.heap.size, 3, none⟩ = some (.int .i64 (pp l k).2.2.2) ∧ w'.cell? ⟨b0, off0 + (k - 1) * 4, none⟩ = some (.int .i64 (pp l (k - 1)).1))) (by kernel_rfl) (by kernel_rfl) (X.out) ?_
                repeat
                  first
                    | go_big_quiet_skip
                    | (go_big_quiet_want
                       first
                         | (unfold Oper.quiet
                            apply Exists.intro
                            refine ⟨fun wq hq => ?_, ?_⟩
                            · (try dsimp only at hq
                               simp [go_sem, Oper.quietAt, Oper.quietUpon, BigFrame.eval_const, BigFrame.eval_global, BigFrame.eval_func, ↓IntWalk.iteOmega, *]
                               first | done | rfl | (first | (refine calm_same hq (i_inside _ _ _ _) (by first | rw [H1.out])) | (refine calm_call hq (NetI.keep w wr N b0 off0 n c k l) (i_has _ _ _ _ _ _) (by first | rw [H2.out]))))
                            simp only [Act.put, List.setIfInBounds_toArray, List.set_cons_succ, List.set_cons_zero]
                            go_big_quiet_on))
                refine wpQuiet_nil ?_
                intro wc hcalm
                try dsimp only at hcalm
                have HC := hid (⟨hcalm.1, hcalm.2.1, hcalm.2.2.1⟩ : Below w.heap.size w wc ∧ wc.cell? ⟨w.heap.size, 0, none⟩ = some (.int .i64 N) ∧ wc.cell? ⟨w.heap.size, 1, none⟩ = some (.slice (some ⟨b0, off0, none⟩) n c))
                clear hcalm
                go_wp2
                go_ret
                exact ⟨ret_bool E.out, HC.out.1⟩
              · cases c3 : inR (pp l k).2.2.1 1 N
                · have H1 := hid c1
                  have H2 := hid c2
                  have H3 := hid c3
                  clear c1 c2 c3 hok
                  refine wp_region_calm (C := (fun w' => Below w.heap.size w w' ∧ w'.cell? ⟨w.heap.size, 0, none⟩ = some (.int .i64 N) ∧ w'.cell? ⟨w.heap.size, 1, none⟩ = some (.slice (some ⟨b0, off0, none⟩) n c) ∧ w'.cell? ⟨wr.heap.size, 0, none⟩ = some (.int .i64 (pp l k).1) ∧ w'.cell? ⟨wr.heap.size, 1, none⟩ = some (.int .i64 (pp l k).2.1) ∧ w'.cell? ⟨wr.heap.size, 2, none⟩ = some (.int .i64 (pp l k).2.2.1) ∧ w'.cell? ⟨wr.heap.size, 3, none⟩ = some (.int .i64 (pp l k).2.2.2) ∧ w'.cell? ⟨b0, off0 + (k - 1) * 4, none⟩ = some (.int .i64 (pp l (k - 1)).1))) (by kernel_rfl) (by kernel_rfl) (X.out) ?_
                  repeat
                    first
                      | go_big_quiet_skip
                      | (go_big_quiet_want
                         first
                           | (unfold Oper.quiet
                              apply Exists.intro
                              refine ⟨fun wq hq => ?_, ?_⟩
                              · (try dsimp only at hq
                                 simp [go_sem, Oper.quietAt, Oper.quietUpon, BigFrame.eval_const, BigFrame.eval_global, BigFrame.eval_func, ↓IntWalk.iteOmega, *]
                                 first | done | rfl | (first | (refine calm_same hq (i_inside _ _ _ _) (by first | rw [H1.out])) | (refine calm_call hq (NetI.keep w wr N b0 off0 n c k l) (i_has _ _ _ _ _ _) (by first | rw [H2.out] | rw [H3.out]))))
                              simp only [Act.put, List.setIfInBounds_toArray, List.set_cons_succ, List.set_cons_zero]
                              go_big_quiet_on))
                  refine wpQuiet_nil ?_
                  intro wc hcalm
                  try dsimp only at hcalm
                  have HC := hid (⟨hcalm.1, hcalm.2.1, hcalm.2.2.1⟩ : Below w.heap.size w wc ∧ wc.cell? ⟨w.heap.size, 0, none⟩ = some (.int .i64 N) ∧ wc.cell? ⟨w.heap.size, 1, none⟩ = some (.slice (some ⟨b0, off0, none⟩) n c))
                  clear hcalm
                  go_wp2
                  go_ret
                  exact ⟨ret_bool E.out, HC.out.1⟩
                · by_cases c4 : (pp l k).2.1 = (pp l k).2.2.1
                  · have H1 := hid c1
                    have H2 := hid c2
                    have H3 := hid c3
                    have c4b : ((pp l k).2.1 == (pp l k).2.2.1) = true := by simpa using c4
                    have c4p : ((pp l k).2.1 = (pp l k).2.2.1) = True := eq_true c4
                    clear c1 c2 c3 c4 hok
                    refine wp_region_calm (C := (fun w' => Below w.heap.size w w' ∧ w'.cell? ⟨w.heap.size, 0, none⟩ = some (.int .i64 N) ∧ w'.cell? ⟨w.heap.size, 1, none⟩ = some (.slice (some ⟨b0, off0, none⟩) n c) ∧ w'.cell? ⟨wr.heap.size, 0, none⟩ = some (.int .i64 (pp l k).1) ∧ w'.cell? ⟨wr.heap.size, 1, none⟩ = some (.int .i64 (pp l k).2.1) ∧ w'.cell? ⟨wr.heap.size, 2, none⟩ = some (.int .i64 (pp l k).2.2.1) ∧ w'.cell? ⟨wr.heap.size, 3, none⟩ = some (.int .i64 (pp l k).2.2.2) ∧ w'.cell? ⟨b0, off0 + (k - 1) * 4, none⟩ = some (.int .i64 (pp l (k - 1)).1))) (by kernel_rfl) (by kernel_rfl) (X.out) ?_
                    repeat
                      first
                        | go_big_quiet_skip
                        | (go_big_quiet_want
                           first
                             | (unfold Oper.quiet
                                apply Exists.intro
                                refine ⟨fun wq hq => ?_, ?_⟩
                                · (try dsimp only at hq
                                   simp [go_sem, Oper.quietAt, Oper.quietUpon, BigFrame.eval_const, BigFrame.eval_global, BigFrame.eval_func, ↓IntWalk.iteOmega, *]
                                   first | done | rfl | (first | (refine calm_same hq (i_inside _ _ _ _) (by first | rw [H1.out])) | (refine calm_call hq (NetI.keep w wr N b0 off0 n c k l) (i_has _ _ _ _ _ _) (by first | rw [H2.out] | rw [H3.out]))))
                                simp only [Act.put, List.setIfInBounds_toArray, List.set_cons_succ, List.set_cons_zero]
                                go_big_quiet_on))
                    refine wpQuiet_nil ?_
                    intro wc hcalm
                    try dsimp only at hcalm
                    have HC := hid (⟨hcalm.1, hcalm.2.1, hcalm.2.2.1⟩ : Below w.heap.size w wc ∧ wc.cell? ⟨w.heap.size, 0, none⟩ = some (.int .i64 N) ∧ wc.cell? ⟨w.heap.size, 1, none⟩ = some (.slice (some ⟨b0, off0, none⟩) n c))
                    clear hcalm
                    go_wp2
                    go_ret
                    exact ⟨ret_bool E.out, HC.out.1⟩
                  · have c4b : ((pp l k).2.1 == (pp l k).2.2.1) = false := by simpa using c4
                    cases c5 : inR (pp l k).2.2.2 1 9
                    · have H1 := hid c1
                      have H2 := hid c2
                      have H3 := hid c3
                      have H5 := hid c5
                      clear c1 c2 c3 c5 hok
                      refine wp_region_calm (C := (fun w' => Below w.heap.size w w' ∧ w'.cell? ⟨w.heap.size, 0, none⟩ = some (.int .i64 N) ∧ w'.cell? ⟨w.heap.size, 1, none⟩ = some (.slice (some ⟨b0, off0, none⟩) n c) ∧ w'.cell? ⟨wr.heap.size, 0, none⟩ = some (.int .i64 (pp l k).1) ∧ w'.cell? ⟨wr.heap.size, 1, none⟩ = some (.int .i64 (pp l k).2.1) ∧ w'.cell? ⟨wr.heap.size, 2, none⟩ = some (.int .i64 (pp l k).2.2.1) ∧ w'.cell? ⟨wr.heap.size, 3, none⟩ = some (.int .i64 (pp l k).2.2.2) ∧ w'.cell? ⟨b0, off0 + (k - 1) * 4, none⟩ = some (.int .i64 (pp l (k - 1)).1))) (by kernel_rfl) (by kernel_rfl) (X.out) ?_
                      repeat
                        first
                          | go_big_quiet_skip
                          | (go_big_quiet_want
                             first
                               | (unfold Oper.quiet
                                  apply Exists.intro
                                  refine ⟨fun wq hq => ?_, ?_⟩
                                  · (try dsimp only at hq
                                     simp [go_sem, Oper.quietAt, Oper.quietUpon, BigFrame.eval_const, BigFrame.eval_global, BigFrame.eval_func, ↓IntWalk.iteOmega, *]
                                     first | done | rfl | (first | (refine calm_same hq (i_inside _ _ _ _) (by first | rw [H1.out] | rw [H5.out])) | (refine calm_call hq (NetI.keep w wr N b0 off0 n c k l) (i_has _ _ _ _ _ _) (by first | rw [H2.out] | rw [H3.out]))))
                                  simp only [Act.put, List.setIfInBounds_toArray, List.set_cons_succ, List.set_cons_zero]
                                  go_big_quiet_on))
                      refine wpQuiet_nil ?_
                      intro wc hcalm
                      try dsimp only at hcalm
                      have HC := hid (⟨hcalm.1, hcalm.2.1, hcalm.2.2.1⟩ : Below w.heap.size w wc ∧ wc.cell? ⟨w.heap.size, 0, none⟩ = some (.int .i64 N) ∧ wc.cell? ⟨w.heap.size, 1, none⟩ = some (.slice (some ⟨b0, off0, none⟩) n c))
                      clear hcalm
                      go_wp2
                      go_ret
                      exact ⟨ret_bool E.out, HC.out.1⟩
                    · have hq0 : ¬ (k = 0 ∨ (pp l (k - 1)).1 < (pp l k).1) := fun h => hok (by simp only [okQ, okPipe, Bool.and_eq_true, Bool.or_eq_true, decide_eq_true_eq]; exact ⟨⟨⟨⟨⟨c1, c2⟩, c3⟩, c4⟩, c5⟩, h⟩)
                      have hle6 : (pp l k).1 ≤ (pp l (k - 1)).1 := by omega
                      have H1 := hid c1
                      have H2 := hid c2
                      have H3 := hid c3
                      have H5 := hid c5
                      clear c1 c2 c3 c5 hok
                      have hkp : 0 < k := by omega
                      have hk1 : k - 1 < n := by omega
                      clear hq0
                      have hw : IntKind.i64.wrap ((k : Int) - 1) = ((k - 1 : Nat) : Int) := (IntWalk.i64_in _ (by omega)).trans (by omega)
                      refine wp_region_calm (C := (fun w' => Below w.heap.size w w' ∧ w'.cell? ⟨w.heap.size, 0, none⟩ = some (.int .i64 N) ∧ w'.cell? ⟨w.heap.size, 1, none⟩ = some (.slice (some ⟨b0, off0, none⟩) n c) ∧ w'.cell? ⟨wr.heap.size, 0, none⟩ = some (.int .i64 (pp l k).1) ∧ w'.cell? ⟨wr.heap.size, 1, none⟩ = some (.int .i64 (pp l k).2.1) ∧ w'.cell? ⟨wr.heap.size, 2, none⟩ = some (.int .i64 (pp l k).2.2.1) ∧ w'.cell? ⟨wr.heap.size, 3, none⟩ = some (.int .i64 (pp l k).2.2.2) ∧ w'.cell? ⟨b0, off0 + (k - 1) * 4, none⟩ = some (.int .i64 (pp l (k - 1)).1))) (by kernel_rfl) (by kernel_rfl) (X.out) ?_
                      repeat
                        first
                          | go_big_quiet_skip
                          | (go_big_quiet_want
                             first
                               | (unfold Oper.quiet
                                  apply Exists.intro
                                  refine ⟨fun wq hq => ?_, ?_⟩
                                  · (try dsimp only at hq
                                     simp [go_sem, Oper.quietAt, Oper.quietUpon, BigFrame.eval_const, BigFrame.eval_global, BigFrame.eval_func, ↓IntWalk.iteOmega, *]
                                     first | done | rfl | (first | (refine calm_same hq (i_inside _ _ _ _) (by first | rw [H1.out] | rw [H5.out])) | (refine calm_call hq (NetI.keep w wr N b0 off0 n c k l) (i_has _ _ _ _ _ _) (by first | rw [H2.out] | rw [H3.out]))))
                                  simp only [Act.put, List.setIfInBounds_toArray, List.set_cons_succ, List.set_cons_zero]
                                  go_big_quiet_on))
                      refine wpQuiet_nil ?_
                      intro wc hcalm
                      try dsimp only at hcalm
                      have HC := hid (⟨hcalm.1, hcalm.2.1, hcalm.2.2.1⟩ : Below w.heap.size w wc ∧ wc.cell? ⟨w.heap.size, 0, none⟩ = some (.int .i64 N) ∧ wc.cell? ⟨w.heap.size, 1, none⟩ = some (.slice (some ⟨b0, off0, none⟩) n c))
                      clear hcalm
                      go_wp2
                      go_ret
                      exact ⟨ret_bool E.out, HC.out.1⟩
        · obtain rfl : k = n := by omega
          have E := hid (goodNet_all H0.out (by have := HL.out; omega) (fun j hj => hh.out j (by have := HL.out; omega)) : goodNet N l = true).symm
          go_wp2
          go_ret
          exact ⟨ret_bool (by first | exact E.out | (rw [← E.out]; simp; omega)), hB.out.1⟩

end Go.Proofs.Ytheaagbffphdmaa
