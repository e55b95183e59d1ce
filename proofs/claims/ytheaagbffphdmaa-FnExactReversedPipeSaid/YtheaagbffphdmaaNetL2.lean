/-
  Networks: LossOf.
-/
import Derived.Test.YtheaagbffphdmaaNetL
set_option linter.unusedVariables false
set_option linter.unusedSimpArgs false
namespace Go.Proofs.Ytheaagbffphdmaa
open Go.RowKit

theorem lossR_no {N : Int} {l : List Pip} {fs : List Int} {id : Int} (h : goodNet N l = false ∨ goodFl l.length fs = false ∨ findQ l id = -1) : lossR N l fs id = (0, false) := by
  unfold lossR
  rw [if_neg]
  rintro ⟨h1, h2, h3⟩
  rcases h with h | h | h
  · rw [h1] at h; cases h
  · rw [h2] at h; cases h
  · omega

abbrev NetB (w : World) (N : Int) (s : Value) (w' : World) : Prop := Below w.heap.size w w' ∧ w'.cell? ⟨w.heap.size, 0, none⟩ = some (.int .i64 N) ∧ w'.cell? ⟨w.heap.size, 1, none⟩ = some s
theorem NetB.keep (w : World) (N : Int) (s : Value) (wy w5 : World) (h : NetB w N s wy) (hb : Below wy.heap.size wy w5) : NetB w N s w5 :=
  let ⟨h0, x0, x1⟩ := h
  ⟨bstep h0 hb, (hb.cell (World.block_lt_of_cell? wy _ x0)).trans x0, (hb.cell (World.block_lt_of_cell? wy _ x1)).trans x1⟩

set_option maxRecDepth 100000 in
set_option maxHeartbeats 2000000 in
theorem i_LossOf (N : Int) (a b : Option Addr) (n c m d : Nat) (l : List Pip) (fs : List Int) (q : Int) (w : World) (h : QAt w a n l) (h' : IntsAt w b m fs) (hn : n ≤ 1048576) (hm : m ≤ 1048576) (x : Int) (y : Bool) (hR : lossR N l fs q = (x, y)) :
    Calls Try.prog 23 #[.agg #[.int .i64 N, .slice a n c], .slice b m d, .int .i64 q] w fun e w' => e = .returned (.tuple #[.int .i64 x, .bool y]) ∧ Below w.heap.size w w' := by
  have hl := h.1
  have H := hid h
  have H' := hid h'
  clear h h'
  by_cases h12 : (goodNet N l && goodFl n fs) = true
  · have HF := hid h12
    have h2 := ((Bool.and_eq_true _ _).mp h12)
    have hmn : m = n := by have := (goodFl_iff.1 h2.2).1; have := H'.out.1; omega
    subst hmn
    rcases findQ_cases l q with h3 | ⟨k, hk, h3⟩
    · have H3 := hid h3
      rw [lossR_no (.inr (.inr h3))] at hR
      cases hR
      clear h12 h2 h3 hl
      go_enter Try.func23, Try.ntmps23
      go_wp2_with fail
      refine (i_isFlowing N _ _ _ _ _ _ l fs _ (H.out.below (by go_grown)) (H'.out.below (by go_grown)) (by omega) (by omega)).mono ?_
      rintro e w1 ⟨rfl, hb1⟩
      rw [HF.out]
      obtain ⟨hc_w1, hf_w1⟩ := bcell hb1
      have hz_w1_0 : w.heap.size < w1.heap.size := by have := hb1.size; simp only [World.size_alloc] at this; omega
      have HB1 := hid (bstep (by go_grown) hb1 : Below w.heap.size w w1)
      go_wp2_with fail
      refine (i_pipeIndex N q _ _ _ l _ (H.out.below HB1.out) (by omega)).mono ?_
      rintro e w2 ⟨rfl, hb2⟩
      rw [H3.out]
      go_wp2
      go_ret2
      exact ⟨rfl, bstep HB1.out hb2⟩
    · have H3 := hid h3
      have HG := hid h2.1
      have HS := hid h2.2
      have e0 : lossR N l fs q = (loss l fs k, true) := by
        unfold lossR
        rw [if_pos ⟨h2.1, by rw [hl]; exact h2.2, by omega⟩, h3]
        rfl
      rw [e0] at hR
      cases hR
      have hkm : k < m := by omega
      have hk0 : ¬ ((k : Int) < 0) := by omega
      clear h12 h2 h3 hl e0
      go_enter Try.func23, Try.ntmps23
      go_wp2_with fail
      refine (i_isFlowing N _ _ _ _ _ _ l fs _ (H.out.below (by go_grown)) (H'.out.below (by go_grown)) (by omega) (by omega)).mono ?_
      rintro e w1 ⟨rfl, hb1⟩
      rw [HF.out]
      obtain ⟨hc_w1, hf_w1⟩ := bcell hb1
      have hz_w1_0 : w.heap.size < w1.heap.size := by have := hb1.size; simp only [World.size_alloc] at this; omega
      have HB1 := hid (bstep (by go_grown) hb1 : Below w.heap.size w w1)
      go_wp2_with fail
      refine (i_pipeIndex N q _ _ _ l _ (H.out.below HB1.out) (by omega)).mono ?_
      rintro e w2 ⟨rfl, hb2⟩
      rw [H3.out]
      have HB2 := hid (bstep HB1.out hb2)
      have n0 : w2.cell? ⟨w.heap.size, 0, none⟩ = some (.int .i64 N) := by rw [(bcell hb2).1 _ _ hz_w1_0, hc_w1 _ _ (by simp)]; exact cell_of_row _ _ 0 _ _ (0, 0) (heap_alloc_new _ _)
      have n1 : w2.cell? ⟨w.heap.size, 1, none⟩ = some (.slice a m c) := by rw [(bcell hb2).1 _ _ hz_w1_0, hc_w1 _ _ (by simp)]; exact cell_of_row _ _ 1 _ _ (0, 0) (heap_alloc_new _ _)
      have X := hid (show NetB w N (.slice a m c) w2.drew from ⟨HB2.out.drew, n0, n1⟩)
      clear hb1 hb2 hc_w1 hf_w1 n0 n1
      go_upto_region 3 with fail
      refine wp_region_calm (C := (fun w' => Below w.heap.size w w' ∧ w'.cell? ⟨w.heap.size, 0, none⟩ = some (.int .i64 N) ∧ w'.cell? ⟨w.heap.size, 1, none⟩ = some (.slice a m c))) (by kernel_rfl) (by kernel_rfl) (X.out) ?_
      repeat
        first
          | go_big_quiet_skip
          | (go_big_quiet_want
             first
               | (unfold Oper.quiet
                  apply Exists.intro
                  refine ⟨fun wq hq => ?_, ?_⟩
                  · (try dsimp only at hq
                     simp [go_sem, Oper.quietAt, Oper.quietUpon, BigFrame.eval_const, BigFrame.eval_global, BigFrame.eval_func, ↓IntWalk.iteOmega, *]
                     first | done | rfl | (first | (refine calm_call hq (NetB.keep w N _) (i_pipeIndex N q _ _ _ l _ (H.out.below hq.1) (by omega)) (by rw [H3.out])) | (refine calm_call hq (NetB.keep w N _) (i_lossOf N _ _ _ _ _ k l fs _ (H.out.below hq.1) (H'.out.below hq.1) HG.out HS.out hkm) rfl)))
                  simp only [Act.put, List.setIfInBounds_toArray, List.set_cons_succ, List.set_cons_zero]
                  go_big_quiet_on))
      refine wpQuiet_nil ?_
      intro wc hcalm
      try dsimp only at hcalm
      have HC := hid hcalm.1
      clear hcalm
      go_wp2
      go_ret2
      exact ⟨rfl, HC.out⟩
  · have HF := hid (show (goodNet N l && goodFl n fs) = false by simpa using h12)
    have e0 : lossR N l fs q = (0, false) := by
      apply lossR_no
      cases h1 : goodNet N l
      · exact .inl rfl
      · have := HF.out; rw [h1] at this; rw [hl]; exact .inr (.inl this)
    rw [e0] at hR
    cases hR
    clear h12 hl e0
    go_enter Try.func23, Try.ntmps23
    go_wp2_with fail
    refine (i_isFlowing N _ _ _ _ _ _ l fs _ (H.out.below (by go_grown)) (H'.out.below (by go_grown)) (by omega) (by omega)).mono ?_
    rintro e w1 ⟨rfl, hb1⟩
    rw [HF.out]
    go_wp2
    go_ret2
    exact ⟨rfl, bstep (by go_grown) hb1⟩

set_option maxRecDepth 100000 in
set_option maxHeartbeats 2000000 in
theorem s_LossOf (N : Int) (a b : Option Addr) (n c m d : Nat) (l : List Pip) (fs : List Int) (q : Int) (w : World) (h : QAt w a n l) (h' : IntsAt w b m fs) (hn : n ≤ 1048576) (hm : m ≤ 1048576) (x : Int) (y : Bool) (hR : lossR N l fs q = (x, y)) :
    Calls Try.prog 22 #[.agg #[.int .i64 N, .slice a n c], .slice b m d, .int .i64 q] w fun e w' => e = .returned (.tuple #[.int .i64 x, .bool y]) ∧ Below w.heap.size w w' := by
  have hl := h.1
  have H := hid h
  have H' := hid h'
  clear h h'
  cases h1 : goodNet N l
  · have HG := hid h1
    rw [lossR_no (.inl h1)] at hR
    cases hR
    clear h1 hl
    go_enter Try.func22, Try.ntmps22
    go_wp2_with fail
    refine (s_l2Find N q _ _ _ l _ (H.out.below (by go_grown)) (by omega)).mono ?_
    rintro e w0 ⟨rfl, hb0⟩
    have HB0 := hid (bstep (by go_grown) hb0 : Below w.heap.size w w0)
    have hz_w0_0 : w.heap.size < w0.heap.size := by have := hb0.size; simp only [World.size_alloc] at this; omega
    have n0_0 : w0.cell? ⟨w.heap.size, 0, none⟩ = some (.int .i64 N) := by rw [(bcell hb0).1 _ _ (by simp)]; exact cell_of_row _ _ 0 _ _ (0, 0) (heap_alloc_new _ _)
    have n0_1 := (((bcell hb0).1 w.heap.size 1 (by simp)).trans (cell_of_row _ _ 1 _ _ (0, 0) (heap_alloc_new _ _)))
    simp only [List.getElem?_toArray, List.getElem?_cons_succ, List.getElem?_cons_zero] at n0_1
    clear hb0
    go_wp2_with fail
    refine (s_l2Good N _ _ _ l _ (H.out.below HB0.out) (by omega)).mono ?_
    rintro e w1 ⟨rfl, hb1⟩
    rw [HG.out]
    have HB1 := hid (bstep HB0.out hb1)
    have hz_w1_0 : w.heap.size < w1.heap.size := by have := hb1.size; omega
    have n1_0 := ((bcell hb1).1 _ _ hz_w0_0).trans n0_0
    have n1_1 := ((bcell hb1).1 _ _ hz_w0_0).trans n0_1
    clear hb1 n0_0 n0_1
    go_wp2
    go_ret2
    exact ⟨rfl, HB1.out⟩
  · cases h2 : goodFl n fs
    · have HG := hid h1
      have HD := hid h2
      rw [lossR_no (.inr (.inl (by rw [hl]; exact h2)))] at hR
      cases hR
      clear h1 h2 hl
      go_enter Try.func22, Try.ntmps22
      go_wp2_with fail
      refine (s_l2Find N q _ _ _ l _ (H.out.below (by go_grown)) (by omega)).mono ?_
      rintro e w0 ⟨rfl, hb0⟩
      have HB0 := hid (bstep (by go_grown) hb0 : Below w.heap.size w w0)
      have hz_w0_0 : w.heap.size < w0.heap.size := by have := hb0.size; simp only [World.size_alloc] at this; omega
      have n0_0 : w0.cell? ⟨w.heap.size, 0, none⟩ = some (.int .i64 N) := by rw [(bcell hb0).1 _ _ (by simp)]; exact cell_of_row _ _ 0 _ _ (0, 0) (heap_alloc_new _ _)
      have n0_1 := (((bcell hb0).1 w.heap.size 1 (by simp)).trans (cell_of_row _ _ 1 _ _ (0, 0) (heap_alloc_new _ _)))
      simp only [List.getElem?_toArray, List.getElem?_cons_succ, List.getElem?_cons_zero] at n0_1
      clear hb0
      go_wp2_with fail
      refine (s_l2Good N _ _ _ l _ (H.out.below HB0.out) (by omega)).mono ?_
      rintro e w1 ⟨rfl, hb1⟩
      rw [HG.out]
      have HB1 := hid (bstep HB0.out hb1)
      have hz_w1_0 : w.heap.size < w1.heap.size := by have := hb1.size; omega
      have n1_0 := ((bcell hb1).1 _ _ hz_w0_0).trans n0_0
      have n1_1 := ((bcell hb1).1 _ _ hz_w0_0).trans n0_1
      clear hb1 n0_0 n0_1
      go_wp2_with fail
      refine (s_l8Flows N _ _ _ _ _ _ fs _ (H'.out.below HB1.out) (by omega)).mono ?_
      rintro e w2 ⟨rfl, hb2⟩
      rw [HD.out]
      have HB2 := hid (bstep HB1.out hb2)
      have hz_w2_0 : w.heap.size < w2.heap.size := by have := hb2.size; omega
      have n2_0 := ((bcell hb2).1 _ _ hz_w1_0).trans n1_0
      have n2_1 := ((bcell hb2).1 _ _ hz_w1_0).trans n1_1
      clear hb2 n1_0 n1_1
      go_wp2
      go_ret2
      exact ⟨rfl, HB2.out⟩
    · have hmn : m = n := by have := (goodFl_iff.1 h2).1; have := H'.out.1; omega
      subst hmn
      rcases findQ_cases l q with h3 | ⟨k, hk, h3⟩
      · have HG := hid h1
        have HD := hid h2
        have H3 := hid h3
        rw [lossR_no (.inr (.inr h3))] at hR
        cases hR
        clear h1 h2 h3 hl
        go_enter Try.func22, Try.ntmps22
        go_wp2_with fail
        refine (s_l2Find N q _ _ _ l _ (H.out.below (by go_grown)) (by omega)).mono ?_
        rintro e w0 ⟨rfl, hb0⟩
        have HB0 := hid (bstep (by go_grown) hb0 : Below w.heap.size w w0)
        have hz_w0_0 : w.heap.size < w0.heap.size := by have := hb0.size; simp only [World.size_alloc] at this; omega
        have n0_0 : w0.cell? ⟨w.heap.size, 0, none⟩ = some (.int .i64 N) := by rw [(bcell hb0).1 _ _ (by simp)]; exact cell_of_row _ _ 0 _ _ (0, 0) (heap_alloc_new _ _)
        have n0_1 := (((bcell hb0).1 w.heap.size 1 (by simp)).trans (cell_of_row _ _ 1 _ _ (0, 0) (heap_alloc_new _ _)))
        simp only [List.getElem?_toArray, List.getElem?_cons_succ, List.getElem?_cons_zero] at n0_1
        clear hb0
        rw [H3.out]
        go_wp2_with fail
        refine (s_l2Good N _ _ _ l _ (H.out.below HB0.out) (by omega)).mono ?_
        rintro e w1 ⟨rfl, hb1⟩
        rw [HG.out]
        have HB1 := hid (bstep HB0.out hb1)
        have hz_w1_0 : w.heap.size < w1.heap.size := by have := hb1.size; omega
        have n1_0 := ((bcell hb1).1 _ _ hz_w0_0).trans n0_0
        have n1_1 := ((bcell hb1).1 _ _ hz_w0_0).trans n0_1
        clear hb1 n0_0 n0_1
        go_wp2_with fail
        refine (s_l8Flows N _ _ _ _ _ _ fs _ (H'.out.below HB1.out) (by omega)).mono ?_
        rintro e w2 ⟨rfl, hb2⟩
        rw [HD.out]
        have HB2 := hid (bstep HB1.out hb2)
        have hz_w2_0 : w.heap.size < w2.heap.size := by have := hb2.size; omega
        have n2_0 := ((bcell hb2).1 _ _ hz_w1_0).trans n1_0
        have n2_1 := ((bcell hb2).1 _ _ hz_w1_0).trans n1_1
        clear hb2 n1_0 n1_1
        go_wp2
        go_ret2
        exact ⟨rfl, HB2.out⟩
      · have HG := hid h1
        have HD := hid h2
        have H3 := hid h3
        have e0 : lossR N l fs q = (loss l fs k, true) := by
          unfold lossR
          rw [if_pos ⟨h1, by rw [hl]; exact h2, by omega⟩, h3]
          rfl
        rw [e0] at hR
        cases hR
        have hkm : k < m := by omega
        have hk0 : ¬ ((k : Int) < 0) := by omega
        have hp := (goodNet_pipe h1 (k := k) (by omega)).2.2.2.2
        have hq8 := (goodFl_iff.1 h2).2 _ (getD_mem' (k := k) (by have := H'.out.1; omega))
        obtain ⟨b0, off0, rfl, hbw, -, -, -, -⟩ := QAt.get H.out k hkm
        obtain ⟨b1, off1, rfl, hbw1, -⟩ := H'.out.2 k hkm
        clear h1 h2 h3 hl e0
        go_enter Try.func22, Try.ntmps22
        go_wp2_with fail
        refine (s_l2Find N q _ _ _ l _ (H.out.below (by go_grown)) (by omega)).mono ?_
        rintro e w0 ⟨rfl, hb0⟩
        have HB0 := hid (bstep (by go_grown) hb0 : Below w.heap.size w w0)
        have hz_w0_0 : w.heap.size < w0.heap.size := by have := hb0.size; simp only [World.size_alloc] at this; omega
        have n0_0 : w0.cell? ⟨w.heap.size, 0, none⟩ = some (.int .i64 N) := by rw [(bcell hb0).1 _ _ (by simp)]; exact cell_of_row _ _ 0 _ _ (0, 0) (heap_alloc_new _ _)
        have n0_1 := (((bcell hb0).1 w.heap.size 1 (by simp)).trans (cell_of_row _ _ 1 _ _ (0, 0) (heap_alloc_new _ _)))
        simp only [List.getElem?_toArray, List.getElem?_cons_succ, List.getElem?_cons_zero] at n0_1
        clear hb0
        rw [H3.out]
        go_wp2_with fail
        refine (s_l2Good N _ _ _ l _ (H.out.below HB0.out) (by omega)).mono ?_
        rintro e w1 ⟨rfl, hb1⟩
        rw [HG.out]
        have HB1 := hid (bstep HB0.out hb1)
        have hz_w1_0 : w.heap.size < w1.heap.size := by have := hb1.size; omega
        have n1_0 := ((bcell hb1).1 _ _ hz_w0_0).trans n0_0
        have n1_1 := ((bcell hb1).1 _ _ hz_w0_0).trans n0_1
        clear hb1 n0_0 n0_1
        go_wp2_with fail
        refine (s_l8Flows N _ _ _ _ _ _ fs _ (H'.out.below HB1.out) (by omega)).mono ?_
        rintro e w2 ⟨rfl, hb2⟩
        rw [HD.out]
        have HB2 := hid (bstep HB1.out hb2)
        have hz_w2_0 : w.heap.size < w2.heap.size := by have := hb2.size; omega
        have n2_0 := ((bcell hb2).1 _ _ hz_w1_0).trans n1_0
        have n2_1 := ((bcell hb2).1 _ _ hz_w1_0).trans n1_1
        clear hb2 n1_0 n1_1
        obtain ⟨_, _, e1, _, x0, x1, x2, x3⟩ := QAt.get (H.out.below HB2.out) k hkm
        cases e1
        obtain ⟨_, _, e2, _, hcell⟩ := (H'.out.below HB2.out).2 k hkm
        cases e2
        have X := hid (show Below w.heap.size w w2.drew ∧ w2.drew.cell? ⟨w.heap.size, 1, none⟩ = some (.slice (some ⟨b0, off0, none⟩) m c) ∧ w2.drew.cell? ⟨b0, off0 + k * 4, none⟩ = some (.int .i64 (pp l k).1) ∧ w2.drew.cell? ⟨b0, off0 + k * 4 + 1, none⟩ = some (.int .i64 (pp l k).2.1) ∧ w2.drew.cell? ⟨b0, off0 + k * 4 + 2, none⟩ = some (.int .i64 (pp l k).2.2.1) ∧ w2.drew.cell? ⟨b0, off0 + k * 4 + 3, none⟩ = some (.int .i64 (pp l k).2.2.2) ∧ w2.drew.cell? ⟨b1, off1 + k, none⟩ = some (.int .i64 (fs[k]?.getD 0)) from ⟨HB2.out.drew, n2_1, x0, x1, x2, x3, hcell⟩)
        have KEEP : Hid (∀ wy w5 : World, (Below w.heap.size w wy ∧ wy.cell? ⟨w.heap.size, 1, none⟩ = some (.slice (some ⟨b0, off0, none⟩) m c) ∧ wy.cell? ⟨b0, off0 + k * 4, none⟩ = some (.int .i64 (pp l k).1) ∧ wy.cell? ⟨b0, off0 + k * 4 + 1, none⟩ = some (.int .i64 (pp l k).2.1) ∧ wy.cell? ⟨b0, off0 + k * 4 + 2, none⟩ = some (.int .i64 (pp l k).2.2.1) ∧ wy.cell? ⟨b0, off0 + k * 4 + 3, none⟩ = some (.int .i64 (pp l k).2.2.2) ∧ wy.cell? ⟨b1, off1 + k, none⟩ = some (.int .i64 (fs[k]?.getD 0))) → Below wy.heap.size wy w5 → (Below w.heap.size w w5 ∧ w5.cell? ⟨w.heap.size, 1, none⟩ = some (.slice (some ⟨b0, off0, none⟩) m c) ∧ w5.cell? ⟨b0, off0 + k * 4, none⟩ = some (.int .i64 (pp l k).1) ∧ w5.cell? ⟨b0, off0 + k * 4 + 1, none⟩ = some (.int .i64 (pp l k).2.1) ∧ w5.cell? ⟨b0, off0 + k * 4 + 2, none⟩ = some (.int .i64 (pp l k).2.2.1) ∧ w5.cell? ⟨b0, off0 + k * 4 + 3, none⟩ = some (.int .i64 (pp l k).2.2.2) ∧ w5.cell? ⟨b1, off1 + k, none⟩ = some (.int .i64 (fs[k]?.getD 0)))) :=
          hid (fun wy w5 ⟨h0, z0, z1, z2, z3, z4, z5⟩ hb => ⟨bstep h0 hb, (hb.cell (World.block_lt_of_cell? wy _ z0)).trans z0, (hb.cell (World.block_lt_of_cell? wy _ z1)).trans z1, (hb.cell (World.block_lt_of_cell? wy _ z2)).trans z2, (hb.cell (World.block_lt_of_cell? wy _ z3)).trans z3, (hb.cell (World.block_lt_of_cell? wy _ z4)).trans z4, (hb.cell (World.block_lt_of_cell? wy _ z5)).trans z5⟩)
        clear x0 x1 x2 x3 hcell n2_0 n2_1
        go_upto_region 4 with fail
        refine wp_region_calm (C := (fun w' => Below w.heap.size w w' ∧ w'.cell? ⟨w.heap.size, 1, none⟩ = some (.slice (some ⟨b0, off0, none⟩) m c) ∧ w'.cell? ⟨b0, off0 + k * 4, none⟩ = some (.int .i64 (pp l k).1) ∧ w'.cell? ⟨b0, off0 + k * 4 + 1, none⟩ = some (.int .i64 (pp l k).2.1) ∧ w'.cell? ⟨b0, off0 + k * 4 + 2, none⟩ = some (.int .i64 (pp l k).2.2.1) ∧ w'.cell? ⟨b0, off0 + k * 4 + 3, none⟩ = some (.int .i64 (pp l k).2.2.2) ∧ w'.cell? ⟨b1, off1 + k, none⟩ = some (.int .i64 (fs[k]?.getD 0)))) (by kernel_rfl) (by kernel_rfl) (X.out) ?_
        repeat
          first
            | go_big_quiet_skip
            | (go_big_quiet_want
               first
                 | (unfold Oper.quiet
                    apply Exists.intro
                    refine ⟨fun wq hq => ?_, ?_⟩
                    · (try dsimp only at hq
                       simp [go_sem, Oper.quietAt, Oper.quietUpon, BigFrame.eval_const, BigFrame.eval_global, BigFrame.eval_func, ↓IntWalk.iteOmega, *]
                       first | done | rfl | (refine calm_call hq KEEP.out (s_l9Loss _ _ _ _ _ _ hp hq8) rfl))
                    simp only [Act.put, List.setIfInBounds_toArray, List.set_cons_succ, List.set_cons_zero]
                    go_big_quiet_on))
        refine wpQuiet_nil ?_
        intro wc hcalm
        try dsimp only at hcalm
        have HC := hid hcalm.1
        clear hcalm
        go_wp2
        go_ret2
        exact ⟨rfl, HC.out⟩

end Go.Proofs.Ytheaagbffphdmaa
