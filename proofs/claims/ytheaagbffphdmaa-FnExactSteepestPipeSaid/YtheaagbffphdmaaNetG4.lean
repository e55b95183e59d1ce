/-
  Networks: SteepestPipe of the reference.
-/
import Derived.Test.YtheaagbffphdmaaNetG2
set_option linter.unusedVariables false
set_option linter.unusedSimpArgs false
namespace Go.Proofs.Ytheaagbffphdmaa
open Go.RowKit

set_option maxRecDepth 100000 in
set_option maxHeartbeats 4000000 in
theorem s_SteepestPipe (N : Int) (a b : Option Addr) (n c m d : Nat) (l : List Pip) (fs : List Int) (w : World) (h : QAt w a n l) (h' : IntsAt w b m fs) (hn : n ≤ 1048576) (hm : m ≤ 1048576) (x y : Int) (z : Bool) (hR : steepR N l fs = (x, y, z)) :
    Calls Try.prog 28 #[.agg #[.int .i64 N, .slice a n c], .slice b m d] w fun e w' => e = .returned (.tuple #[.int .i64 x, .int .i64 y, .bool z]) ∧ Below w.heap.size w w' := by
  have hl := h.1
  have H := hid h
  have H' := hid h'
  clear h h'
  cases h1 : goodNet N l
  · have HG := hid h1
    rw [steepR_no (.inl h1)] at hR
    cases hR
    clear h1 hl
    go_enter Try.func28, Try.ntmps28
    go_wp2_with fail
    refine (s_l2Good N _ _ _ l _ (H.out.below (by go_grown)) (by omega)).mono ?_
    rintro e w1 ⟨rfl, hb1⟩
    rw [HG.out]
    obtain ⟨hc_w1, hf_w1⟩ := bcell hb1
    have hz_w1_0 : w.heap.size < w1.heap.size := by have := hb1.size; simp only [World.size_alloc] at this; omega
    have HB1 := hid (bstep (by go_grown) hb1 : Below w.heap.size w w1)
    go_wp2
    go_ret3
    exact ⟨rfl, HB1.out⟩
  · cases h2 : goodFl n fs
    · have HG := hid h1
      have HD := hid h2
      rw [steepR_no (.inr (.inl (by rw [hl]; exact h2)))] at hR
      cases hR
      clear h1 h2 hl
      go_enter Try.func28, Try.ntmps28
      go_wp2_with fail
      refine (s_l2Good N _ _ _ l _ (H.out.below (by go_grown)) (by omega)).mono ?_
      rintro e w1 ⟨rfl, hb1⟩
      rw [HG.out]
      obtain ⟨hc_w1, hf_w1⟩ := bcell hb1
      have hz_w1_0 : w.heap.size < w1.heap.size := by have := hb1.size; simp only [World.size_alloc] at this; omega
      have HB1 := hid (bstep (by go_grown) hb1 : Below w.heap.size w w1)
      go_wp2_with fail
      refine (s_l8Flows N _ _ n _ _ _ fs _ (H'.out.below HB1.out) hm).mono ?_
      rintro e w2 ⟨rfl, hb2⟩
      rw [HD.out]
      go_wp2
      go_ret3
      exact ⟨rfl, bstep HB1.out hb2⟩
    · have hmn : m = n := by have := (goodFl_iff.1 h2).1; have := H'.out.1; omega
      subst hmn
      have HG := hid h1
      have HD := hid h2
      by_cases h3 : m = 0
      · rw [steepR_no (.inr (.inr (by omega)))] at hR
        cases hR
        clear h1 h2 hl
        subst h3
        go_enter Try.func28, Try.ntmps28
        go_wp2_with fail
        refine (s_l2Good N _ _ _ l _ (H.out.below (by go_grown)) (by omega)).mono ?_
        rintro e w1 ⟨rfl, hb1⟩
        rw [HG.out]
        obtain ⟨hc_w1, hf_w1⟩ := bcell hb1
        have hz_w1_0 : w.heap.size < w1.heap.size := by have := hb1.size; simp only [World.size_alloc] at this; omega
        have HB1 := hid (bstep (by go_grown) hb1 : Below w.heap.size w w1)
        go_wp2_with fail
        refine (s_l8Flows N _ _ 0 _ _ _ fs _ (H'.out.below HB1.out) (by omega)).mono ?_
        rintro e w2 ⟨rfl, hb2⟩
        rw [HD.out]
        go_wp2
        go_ret3
        exact ⟨rfl, bstep HB1.out hb2⟩
      ·
        have e0 : steepR N l fs = ((gp l (fun k => max (loss l fs k) (-(loss l fs k))) m).1, (gp l (fun k => max (loss l fs k) (-(loss l fs k))) m).2, true) := by
          unfold steepR
          rw [if_pos ⟨h1, by rw [hl]; exact h2, fun e => h3 (by rw [e] at hl; exact hl.symm)⟩, hl]
        rw [e0] at hR
        cases hR
        have hm0 : 0 < m := by omega
        have hmb : ((m : Int) == 0) = false := by simp; omega
        have HB8 := hid (goodFl_iff.1 h2).2
        have hm10 : m ≤ 10 := by have := (goodNet_get h1).2.1; omega
        have HL := hid hl
        have HL' := hid H'.out.1
        obtain ⟨b0, off0, rfl, hbw, -, -, -, -⟩ := QAt.get H.out 0 hm0
        obtain ⟨b1, off1, rfl, hbw1, -⟩ := H'.out.2 0 hm0
        clear h1 h2 h3 hl e0
        go_enter Try.func28, Try.ntmps28
        go_wp2_with fail
        refine (s_l2Good N _ _ _ l _ (H.out.below (by go_grown)) (by omega)).mono ?_
        rintro e w1 ⟨rfl, hb1⟩
        rw [HG.out]
        obtain ⟨hc_w1, hf_w1⟩ := bcell hb1
        have hz_w1_0 : w.heap.size < w1.heap.size := by have := hb1.size; simp only [World.size_alloc] at this; omega
        have HB1 := hid (bstep (by go_grown) hb1 : Below w.heap.size w w1)
        go_wp2_with fail
        refine (s_l8Flows N _ _ m _ _ _ fs _ (H'.out.below HB1.out) (by omega)).mono ?_
        rintro e w2 ⟨rfl, hb2⟩
        rw [HD.out]
        have hz_w2_0 : w.heap.size < w2.heap.size := by have := hb2.size; omega
        have HB2 := hid (bstep HB1.out hb2)
        have n0 : w2.cell? ⟨w.heap.size, 0, none⟩ = some (.int .i64 N) := by rw [(bcell hb2).1 _ _ hz_w1_0, hc_w1 _ _ (by simp)]; exact cell_of_row _ _ 0 _ _ (0, 0) (heap_alloc_new _ _)
        have n1 := ((bcell hb2).1 w.heap.size 1 hz_w1_0).trans ((hc_w1 _ _ (by simp)).trans (cell_of_row _ _ 1 _ _ (0, 0) (heap_alloc_new _ _)))
        simp only [List.getElem?_toArray, List.getElem?_cons_succ, List.getElem?_cons_zero] at n1
        have N1 := hid n1
        clear hb1 hb2 hc_w1 hf_w1 n0
        go_wp2
        go_loopg [7, 8, 9] m (fun g t7 t8 i wr => ∃ k : Nat, k ≤ m ∧ g = m - k ∧ i = .int .i64 k ∧ t7 = .int .i64 (gp l (fun k => max (loss l fs k) (-(loss l fs k))) k).1 ∧ t8 = .int .i64 (gp l (fun k => max (loss l fs k) (-(loss l fs k))) k).2 ∧ Hid (Below w.heap.size w wr ∧ wr.cell? ⟨w.heap.size, 1, none⟩ = some (.slice (some ⟨b0, off0, none⟩) m c)))
        case atStart => exact ⟨0, by omega, rfl, rfl, rfl, rfl, hid ⟨HB2.out, N1.out⟩⟩
        case round =>
          obtain ⟨k, hk, rfl, rfl, rfl, rfl, hB⟩ := hrel
          by_cases hlt : k < m
          · obtain ⟨_, _, e1, _, hck⟩ := (H'.out.below hB.out.1).2 k hlt
            cases e1
            obtain ⟨_, _, e2, _, x0, x1, x2, x3⟩ := QAt.get (H.out.below hB.out.1) k hlt
            cases e2
            have hp := (goodNet_pipe HG.out (k := k) (by have := HL.out; omega)).2.2.2.2
            have hq8 := HB8.out _ (getD_mem' (l := fs) (k := k) (by have := HL'.out; omega))
            have hlf := (loss_fit hp hq8).2
            have X := hid (show Below w.heap.size w wr.drew ∧ wr.drew.cell? ⟨w.heap.size, 1, none⟩ = some (.slice (some ⟨b0, off0, none⟩) m c) ∧ wr.drew.cell? ⟨b0, off0 + k * 4, none⟩ = some (.int .i64 (pp l k).1) ∧ wr.drew.cell? ⟨b0, off0 + k * 4 + 1, none⟩ = some (.int .i64 (pp l k).2.1) ∧ wr.drew.cell? ⟨b0, off0 + k * 4 + 2, none⟩ = some (.int .i64 (pp l k).2.2.1) ∧ wr.drew.cell? ⟨b0, off0 + k * 4 + 3, none⟩ = some (.int .i64 (pp l k).2.2.2) ∧ wr.drew.cell? ⟨b1, off1 + k, none⟩ = some (.int .i64 (fs[k]?.getD 0)) from ⟨hB.out.1.drew, hB.out.2, x0, x1, x2, x3, hck⟩)
            have KEEP : Hid (∀ wy wz : World, (Below w.heap.size w wy ∧ wy.cell? ⟨w.heap.size, 1, none⟩ = some (.slice (some ⟨b0, off0, none⟩) m c) ∧ wy.cell? ⟨b0, off0 + k * 4, none⟩ = some (.int .i64 (pp l k).1) ∧ wy.cell? ⟨b0, off0 + k * 4 + 1, none⟩ = some (.int .i64 (pp l k).2.1) ∧ wy.cell? ⟨b0, off0 + k * 4 + 2, none⟩ = some (.int .i64 (pp l k).2.2.1) ∧ wy.cell? ⟨b0, off0 + k * 4 + 3, none⟩ = some (.int .i64 (pp l k).2.2.2) ∧ wy.cell? ⟨b1, off1 + k, none⟩ = some (.int .i64 (fs[k]?.getD 0))) → Below wy.heap.size wy wz → (Below w.heap.size w wz ∧ wz.cell? ⟨w.heap.size, 1, none⟩ = some (.slice (some ⟨b0, off0, none⟩) m c) ∧ wz.cell? ⟨b0, off0 + k * 4, none⟩ = some (.int .i64 (pp l k).1) ∧ wz.cell? ⟨b0, off0 + k * 4 + 1, none⟩ = some (.int .i64 (pp l k).2.1) ∧ wz.cell? ⟨b0, off0 + k * 4 + 2, none⟩ = some (.int .i64 (pp l k).2.2.1) ∧ wz.cell? ⟨b0, off0 + k * 4 + 3, none⟩ = some (.int .i64 (pp l k).2.2.2) ∧ wz.cell? ⟨b1, off1 + k, none⟩ = some (.int .i64 (fs[k]?.getD 0)))) :=
              hid (fun wy wz ⟨h0, z0, z1, z2, z3, z4, z5⟩ hb => ⟨bstep h0 hb, (hb.cell (World.block_lt_of_cell? wy _ z0)).trans z0, (hb.cell (World.block_lt_of_cell? wy _ z1)).trans z1, (hb.cell (World.block_lt_of_cell? wy _ z2)).trans z2, (hb.cell (World.block_lt_of_cell? wy _ z3)).trans z3, (hb.cell (World.block_lt_of_cell? wy _ z4)).trans z4, (hb.cell (World.block_lt_of_cell? wy _ z5)).trans z5⟩)
            clear hck x0 x1 x2 x3
            by_cases hgt : (gp l (fun k => max (loss l fs k) (-(loss l fs k))) k).2 < max (loss l fs k) (-(loss l fs k))
            · have E := hid (gp_yes (l := l) (g := fun k => max (loss l fs k) (-(loss l fs k))) hgt)
              have hgt' : ((gp l (fun k => max (loss l fs k) (-(loss l fs k))) k).2 < max ((pp l k).2.2.2 * fs[k]?.getD 0 * max (fs[k]?.getD 0) (-(fs[k]?.getD 0))) (-((pp l k).2.2.2 * fs[k]?.getD 0 * max (fs[k]?.getD 0) (-(fs[k]?.getD 0))))) := hgt
              clear hgt
              go_upto_region 7 with fail
              refine wp_region_calm (C := (fun w' => Below w.heap.size w w' ∧ w'.cell? ⟨w.heap.size, 1, none⟩ = some (.slice (some ⟨b0, off0, none⟩) m c) ∧ w'.cell? ⟨b0, off0 + k * 4, none⟩ = some (.int .i64 (pp l k).1) ∧ w'.cell? ⟨b0, off0 + k * 4 + 1, none⟩ = some (.int .i64 (pp l k).2.1) ∧ w'.cell? ⟨b0, off0 + k * 4 + 2, none⟩ = some (.int .i64 (pp l k).2.2.1) ∧ w'.cell? ⟨b0, off0 + k * 4 + 3, none⟩ = some (.int .i64 (pp l k).2.2.2) ∧ w'.cell? ⟨b1, off1 + k, none⟩ = some (.int .i64 (fs[k]?.getD 0)))) (by kernel_rfl) (by kernel_rfl) (X.out) ?_
              repeat
                first
                  | go_big_quiet_skip
                  | (go_big_quiet_want
                     first
                       | (unfold Oper.quiet
                          apply Exists.intro
                          refine ⟨fun wq hq => ?_, ?_⟩
                          · (try dsimp only at hq
                             simp [go_sem, Oper.quietAt, Oper.quietUpon, BigFrame.eval_const, BigFrame.eval_global, BigFrame.eval_func, ↓IntWalk.iteOmega, *]
                             first | done | rfl | (first | (refine calm_call hq KEEP.out (s_l9Loss _ _ _ _ _ _ hp hq8) rfl) | (refine calm_same hq (s_l8Abs _ _ (by omega)) rfl)))
                          simp only [Act.put, List.setIfInBounds_toArray, List.set_cons_succ, List.set_cons_zero]
                          go_big_quiet_on))
              refine wpQuiet_nil ?_
              intro wc hcalm
              try dsimp only at hcalm
              have HB := hid (show Below w.heap.size w wc ∧ wc.cell? ⟨w.heap.size, 1, none⟩ = some (.slice (some ⟨b0, off0, none⟩) m c) from ⟨hcalm.1, hcalm.2.1⟩)
              have n1 := hcalm.2.1
              have x0 := hcalm.2.2.1
              have hz1 := World.block_lt_of_cell? wc _ n1
              have hz2 := World.block_lt_of_cell? wc _ x0
              clear hcalm
              go_wp2
              go_roundg (m - (k + 1))
              case rel => first | exact ⟨k + 1, by omega, rfl, by go_num, by rw [E.out] <;> rfl, by rw [E.out] <;> rfl, HB⟩ | ((repeat apply Exists.intro); exact ⟨⟨k + 1, by omega, rfl, by go_num, by rw [E.out] <;> rfl, by rw [E.out] <;> rfl, HB⟩, rfl⟩)
              case measure => omega
            · have E := hid (gp_no (l := l) (g := fun k => max (loss l fs k) (-(loss l fs k))) hgt)
              have hgt' : ¬ ((gp l (fun k => max (loss l fs k) (-(loss l fs k))) k).2 < max ((pp l k).2.2.2 * fs[k]?.getD 0 * max (fs[k]?.getD 0) (-(fs[k]?.getD 0))) (-((pp l k).2.2.2 * fs[k]?.getD 0 * max (fs[k]?.getD 0) (-(fs[k]?.getD 0))))) := hgt
              clear hgt
              go_upto_region 7 with fail
              refine wp_region_calm (C := (fun w' => Below w.heap.size w w' ∧ w'.cell? ⟨w.heap.size, 1, none⟩ = some (.slice (some ⟨b0, off0, none⟩) m c) ∧ w'.cell? ⟨b0, off0 + k * 4, none⟩ = some (.int .i64 (pp l k).1) ∧ w'.cell? ⟨b0, off0 + k * 4 + 1, none⟩ = some (.int .i64 (pp l k).2.1) ∧ w'.cell? ⟨b0, off0 + k * 4 + 2, none⟩ = some (.int .i64 (pp l k).2.2.1) ∧ w'.cell? ⟨b0, off0 + k * 4 + 3, none⟩ = some (.int .i64 (pp l k).2.2.2) ∧ w'.cell? ⟨b1, off1 + k, none⟩ = some (.int .i64 (fs[k]?.getD 0)))) (by kernel_rfl) (by kernel_rfl) (X.out) ?_
              repeat
                first
                  | go_big_quiet_skip
                  | (go_big_quiet_want
                     first
                       | (unfold Oper.quiet
                          apply Exists.intro
                          refine ⟨fun wq hq => ?_, ?_⟩
                          · (try dsimp only at hq
                             simp [go_sem, Oper.quietAt, Oper.quietUpon, BigFrame.eval_const, BigFrame.eval_global, BigFrame.eval_func, ↓IntWalk.iteOmega, *]
                             first | done | rfl | (first | (refine calm_call hq KEEP.out (s_l9Loss _ _ _ _ _ _ hp hq8) rfl) | (refine calm_same hq (s_l8Abs _ _ (by omega)) rfl)))
                          simp only [Act.put, List.setIfInBounds_toArray, List.set_cons_succ, List.set_cons_zero]
                          go_big_quiet_on))
              refine wpQuiet_nil ?_
              intro wc hcalm
              try dsimp only at hcalm
              have HB := hid (show Below w.heap.size w wc ∧ wc.cell? ⟨w.heap.size, 1, none⟩ = some (.slice (some ⟨b0, off0, none⟩) m c) from ⟨hcalm.1, hcalm.2.1⟩)
              have n1 := hcalm.2.1
              have x0 := hcalm.2.2.1
              have hz1 := World.block_lt_of_cell? wc _ n1
              have hz2 := World.block_lt_of_cell? wc _ x0
              clear hcalm
              go_wp2
              go_roundg (m - (k + 1))
              case rel => first | exact ⟨k + 1, by omega, rfl, by go_num, by rw [E.out], by rw [E.out], HB⟩ | ((repeat apply Exists.intro); exact ⟨⟨k + 1, by omega, rfl, by go_num, by rw [E.out], by rw [E.out], HB⟩, rfl⟩)
              case measure => omega
          · obtain rfl : k = m := by omega
            go_wp2
            go_ret3
            exact ⟨rfl, hB.out.1⟩

end Go.Proofs.Ytheaagbffphdmaa
