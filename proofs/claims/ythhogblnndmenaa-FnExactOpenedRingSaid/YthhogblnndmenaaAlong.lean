/-
  The losses along a way: the reference's walk.
-/
import Derived.Test.YthhogblnndmenaaWay
import Derived.Test.YthhogblnndmenaaNetL
set_option linter.unusedVariables false
set_option linter.unusedSimpArgs false
namespace Go.Proofs.Ythhogblnndmenaa
open Go.RowKit

theorem sgl_from {l : List Pip} {fs : List Int} {v : Int} {k : Nat} (h : v = (pp l k).2.1) : sgl l fs v k = loss l fs k := by unfold sgl; rw [if_pos h]
theorem sgl_to {l : List Pip} {fs : List Int} {v : Int} {k : Nat} (h : ¬ v = (pp l k).2.1) : sgl l fs v k = -(loss l fs k) := by unfold sgl; rw [if_neg h]

/-- What a drawn region of the walk may rest on. -/
abbrev AlongC (w W1 : World) (M : Nat) (b0 off0 n c g j : Nat) (x : Int) (w' : World) : Prop :=
  Below W1.heap.size W1 w' ∧ w'.cell? ⟨w.heap.size, 0, none⟩ = some (.int .i64 M) ∧ w'.cell? ⟨w.heap.size, 1, none⟩ = some (.slice (some ⟨b0, off0, none⟩) n c) ∧ w'.cell? ⟨g, j, none⟩ = some (.int .i64 x)
theorem AlongC.keep (w W1 : World) (M : Nat) (b0 off0 n c g j : Nat) (x : Int) (wy w5 : World) (h : AlongC w W1 M b0 off0 n c g j x wy) (hb : Below wy.heap.size wy w5) : AlongC w W1 M b0 off0 n c g j x w5 :=
  ⟨bstep h.1 hb, (hb.cell (World.block_lt_of_cell? wy _ h.2.1)).trans h.2.1, (hb.cell (World.block_lt_of_cell? wy _ h.2.2.1)).trans h.2.2.1, (hb.cell (World.block_lt_of_cell? wy _ h.2.2.2)).trans h.2.2.2⟩
abbrev LossC (W1 : World) (P : Nat) (b1 off1 K : Nat) (p0 p1 p2 p3 x : Int) (w' : World) : Prop :=
  Below W1.heap.size W1 w' ∧ w'.cell? ⟨P, 0, none⟩ = some (.int .i64 p0) ∧ w'.cell? ⟨P, 1, none⟩ = some (.int .i64 p1) ∧ w'.cell? ⟨P, 2, none⟩ = some (.int .i64 p2) ∧ w'.cell? ⟨P, 3, none⟩ = some (.int .i64 p3) ∧ w'.cell? ⟨b1, off1 + K, none⟩ = some (.int .i64 x)
theorem LossC.keep (W1 : World) (P : Nat) (b1 off1 K : Nat) (p0 p1 p2 p3 x : Int) (wy w5 : World) (h : LossC W1 P b1 off1 K p0 p1 p2 p3 x wy) (hb : Below wy.heap.size wy w5) : LossC W1 P b1 off1 K p0 p1 p2 p3 x w5 :=
  ⟨bstep h.1 hb, (hb.cell (World.block_lt_of_cell? wy _ h.2.1)).trans h.2.1, (hb.cell (World.block_lt_of_cell? wy _ h.2.2.1)).trans h.2.2.1, (hb.cell (World.block_lt_of_cell? wy _ h.2.2.2.1)).trans h.2.2.2.1, (hb.cell (World.block_lt_of_cell? wy _ h.2.2.2.2.1)).trans h.2.2.2.2.1, (hb.cell (World.block_lt_of_cell? wy _ h.2.2.2.2.2)).trans h.2.2.2.2.2⟩

set_option maxRecDepth 100000 in
set_option maxHeartbeats 8000000 in
theorem s_l9Along (M v0 t : Nat) (a p : Option Addr) (n c e0 : Nat) (l : List Pip) (fs : List Int) (w : World) (h : QAt w a n l) (h' : IntsAt w p n fs) (hg : goodNet M l = true) (hfl : goodFl n fs = true) (hv : 1 ≤ v0 ∧ v0 ≤ M) (ht : 1 ≤ t ∧ t ≤ M) (d : Nat) (hd : far l 0 t v0 = d) :
    Calls Try.prog 58 #[.agg #[.int .i64 M, .slice a n c], .slice p n e0, .int .i64 v0, .int .i64 t] w fun e w' => e = .returned (.int .i64 (lsum l fs (far l 0 t) v0 d)) ∧ Below w.heap.size w w' := by
  have hM : M ≤ 8 := by have := (goodNet_get hg).1; omega
  have hn : n ≤ 10 := by have := (goodNet_get hg).2.1; have := h.1; omega
  have hdM : d < M := by have := far_lt (wo := 0) (v := (v0 : Int)) hg (show 1 ≤ (t : Int) ∧ (t : Int) ≤ M by omega) (by omega) (by omega); omega
  have HLN := hid h.1
  have HFN := hid h'.1
  have H := hid h
  have H' := hid h'
  have HG := hid hg
  have HF := hid (show goodFl l.length fs = true by rw [h.1]; exact hfl)
  have HDF := hid hd
  clear h h' hg hd hfl
  go_enter Try.func58, Try.ntmps58
  go_upto_region 1 with fail
  have BA := hid (by go_grown : Below w.heap.size w (w.alloc (.cells #[.int .i64 M, .slice a n c] 31)))
  have N0 := hid (cell_of_row _ _ 0 _ _ (0, 0) (heap_alloc_new w (.cells #[.int .i64 M, .slice a n c] 31)))
  have N1 := hid (cell_of_row _ _ 1 _ _ (0, 0) (heap_alloc_new w (.cells #[.int .i64 M, .slice a n c] 31)))
  have hzA : w.heap.size < (w.alloc (.cells #[.int .i64 M, .slice a n c] 31)).heap.size := by simp
  have n0 := N0.out
  have n1 := N1.out
  simp only [List.getElem?_toArray, List.getElem?_cons_zero, List.getElem?_cons_succ] at n0 n1
  generalize w.alloc (.cells #[.int .i64 M, .slice a n c] 31) = wA at *
  go_wp2_with fail
  refine (s_l2Way M v0 t _ _ _ l _ (H.out.below BA.out) HG.out hv ht d HDF.out).mono ?_
  rintro e w1 ⟨a1, c1, rfl, ho1, hb1⟩
  have HO1 := hid ho1
  have HB1 := hid hb1
  have hz1 : w.heap.size < w1.heap.size := by have := hb1.size; omega
  have n0 := (HB1.out.cell (p := ⟨w.heap.size, 0, none⟩) hzA).trans N0.out
  have n1 := (HB1.out.cell (p := ⟨w.heap.size, 1, none⟩) hzA).trans N1.out
  simp only [List.getElem?_toArray, List.getElem?_cons_zero, List.getElem?_cons_succ] at n0 n1
  have M0 := hid n0
  have M1 := hid n1
  clear ho1 hb1
  go_wp2
  go_loopg [2, 10, 11] d (fun g fr sm i wr => ∃ j V : Nat, j ≤ d ∧ g = d - j ∧ fr = .int .i64 V ∧ sm = .int .i64 (lsum l fs (far l 0 t) v0 j) ∧ i = .int .i64 j ∧ Hid (nod l (far l 0 t) v0 j = V) ∧ Hid (Below w1.heap.size w1 wr))
  case atStart => exact ⟨0, v0, Nat.zero_le _, rfl, rfl, by simp [lsum], rfl, hid rfl, hid (by go_grown)⟩
  case round =>
    obtain ⟨j, V, hj, rfl, rfl, rfl, rfl, hV, hh⟩ := hrel
    have NK := hid (nod_ok (t := (t : Int)) (v0 := (v0 : Int)) HG.out (by omega) (by omega) j (by rw [HDF.out]; omega))
    rw [hV.out, HDF.out] at NK
    have hVM : 1 ≤ V ∧ V ≤ M := by have := NK.out.1; omega
    clear n0 n1
    by_cases hlt : j < d
    · have KK := hid (kk_ok (t := (t : Int)) (v0 := (v0 : Int)) (j := j) HG.out (by omega) (by omega) (by rw [HDF.out]; omega))
      rw [hV.out] at KK
      obtain ⟨K, hK⟩ : ∃ K, kk l (far l 0 t) v0 j = K := ⟨_, rfl⟩
      rw [hK] at KK
      have HK := hid hK
      have hKn : K < n := by have := KK.out.1; have := HLN.out; omega
      obtain ⟨bw, ow, rfl, hbw1, hwc⟩ := HO1.out.at.2 j hlt
      have hcw := (hh.out.cell (p := ⟨bw, ow + j, none⟩) hbw1).trans hwc
      rw [wids_get l _ _ hlt, hK] at hcw
      obtain ⟨g5, h5, -, -⟩ := own_some HO1.out (by omega)
      simp only [Option.some.injEq, Addr.mk.injEq] at h5
      obtain ⟨rfl, rfl, -⟩ := h5
      rw [Nat.zero_add] at hcw
      obtain ⟨b0, off0, rfl, hbw, x0, x1, x2, x3⟩ := QAt.get (H.out.below (bstep (bstep BA.out HB1.out) hh.out)) K hKn
      have HP := hid (goodNet_pipe HG.out KK.out.1)
      obtain ⟨F, hF⟩ : ∃ F : Nat, (pp l K).2.1 = F := ⟨(pp l K).2.1.toNat, by have := HP.out.2.1; omega⟩
      obtain ⟨T, hT⟩ : ∃ T : Nat, (pp l K).2.2.1 = T := ⟨(pp l K).2.2.1.toNat, by have := HP.out.2.2.1; omega⟩
      have HFQ := hid (findQ_at HG.out KK.out.1)
      have HVE := hid (oth_ends rfl (stepB_iff.1 KK.out.2.1).1)
      rw [hF, hT] at HVE
      have HFF := hid hF
      have HTT := hid hT
      have lf := lsum_fit (t := (t : Int)) (v0 := (v0 : Int)) HG.out HF.out (by omega) (by omega) j (by rw [HDF.out]; omega)
      have lg := sgl_fit (v := (V : Int)) HG.out HF.out KK.out.1
      have HS := hid (lsum_succ l fs (far l 0 t) v0 j)
      rw [hK, hV.out] at HS
      have HNS := hid (show nod l (far l 0 t) v0 (j + 1) = oth (pp l K) V from by rw [nod_succ, hK, hV.out])
      rw [hF] at x1
      rw [hT] at x2
      clear hF hT hK hbw1 hwc
      have X := hid (show AlongC w wr M b0 off0 n c bw j (pp l K).1 wr.drew from ⟨(Below.refl _ _).drew, (hh.out.cell (p := ⟨w.heap.size, 0, none⟩) hz1).trans M0.out, (hh.out.cell (p := ⟨w.heap.size, 1, none⟩) hz1).trans M1.out, hcw⟩)
      clear hcw
      go_upto_region 6 with fail
      refine wp_region_calm (C := (fun w' => Below wr.heap.size wr w' ∧ w'.cell? ⟨w.heap.size, 0, none⟩ = some (.int .i64 M) ∧ w'.cell? ⟨w.heap.size, 1, none⟩ = some (.slice (some ⟨b0, off0, none⟩) n c) ∧ w'.cell? ⟨bw, j, none⟩ = some (.int .i64 (pp l K).1))) (by kernel_rfl) (by kernel_rfl) (X.out) ?_
      repeat
        first
          | go_big_quiet_skip
          | (go_big_quiet_want
             first
               | (unfold Oper.quiet
                  apply Exists.intro
                  refine ⟨fun wq hq => ?_, ?_⟩
                  · (try dsimp only at hq
                     simp [go_sem, Oper.quietAt, Oper.quietUpon, BigFrame.eval_const, BigFrame.eval_global, BigFrame.eval_func, ↓IntWalk.iteOmega, *]
                     first | done | rfl | (refine calm_call hq (AlongC.keep w wr M b0 off0 n c bw j (pp l K).1) (s_l2Find _ _ _ _ _ l _ (H.out.below (bstep (bstep (bstep BA.out HB1.out) hh.out) hq.1)) (by omega)) (by rw [HFQ.out])))
                  simp only [Act.put, List.setIfInBounds_toArray, List.set_cons_succ, List.set_cons_zero]
                  go_big_quiet_on))
      refine wpQuiet_nil ?_
      intro wc hcalm
      try dsimp only at hcalm
      have HC := hid (hcalm.1 : Below wr.heap.size wr wc)
      have n1 := hcalm.2.2.1
      clear hcalm X
      have y0 := (HC.out.cell (p := ⟨b0, off0 + K * 4, none⟩) hbw).trans x0
      have y1 := (HC.out.cell (p := ⟨b0, off0 + K * 4 + 1, none⟩) hbw).trans x1
      have y2 := (HC.out.cell (p := ⟨b0, off0 + K * 4 + 2, none⟩) hbw).trans x2
      have y3 := (HC.out.cell (p := ⟨b0, off0 + K * 4 + 3, none⟩) hbw).trans x3
      have hbc : b0 < wc.heap.size := World.block_lt_of_cell? wc _ y0
      obtain ⟨b1, off1, e1, hb1w, hfc⟩ := (H'.out.below (bstep (bstep (bstep BA.out HB1.out) hh.out) HC.out)).2 K hKn
      subst e1
      have hfq := (goodFl_iff.1 HF.out).2 _ (getD_mem fs K (by have := HFN.out; omega))
      obtain ⟨q, hq0⟩ : ∃ q, fs[K]?.getD 0 = q := ⟨_, rfl⟩
      rw [hq0] at hfc hfq
      have HLO := hid (show (pp l K).2.2.2 * q * max q (-q) = loss l fs K from by unfold loss; rw [hq0])
      have hsz := HP.out.2.2.2.2
      clear x0 x1 x2 x3 hbw hq0
      by_cases eF : F = V
      · subst eF
        have HSG := hid (sgl_from (fs := fs) (v := (F : Int)) HFF.out.symm)
        have HOT := hid (oth_from HFF.out HTT.out)
        rw [HSG.out] at lg
        have hw9 := IntWalk.i64_in (lsum l fs (far l 0 t) v0 j + loss l fs K) (by omega)
        go_upto_region 9 with fail
        have hbp : Below wc.heap.size wc (wc.alloc (.cells #[.int .i64 (pp l K).1, .int .i64 F, .int .i64 T, .int .i64 (pp l K).2.2.2] 75)) := by go_grown
        have X9 := hid (show LossC wc wc.heap.size b1 off1 K (pp l K).1 F T (pp l K).2.2.2 q (wc.alloc (.cells #[.int .i64 (pp l K).1, .int .i64 F, .int .i64 T, .int .i64 (pp l K).2.2.2] 75)).drew from ⟨hbp.drew, cell_of_row _ _ 0 _ _ (0, 0) (heap_alloc_new _ _), cell_of_row _ _ 1 _ _ (0, 0) (heap_alloc_new _ _), cell_of_row _ _ 2 _ _ (0, 0) (heap_alloc_new _ _), cell_of_row _ _ 3 _ _ (0, 0) (heap_alloc_new _ _), (hbp.cell (p := ⟨b1, off1 + K, none⟩) hb1w).trans hfc⟩)
        clear hbp hfc y0 y1 y2 y3
        refine wp_region_calm (C := (fun w' => Below wc.heap.size wc w' ∧ w'.cell? ⟨wc.heap.size, 0, none⟩ = some (.int .i64 (pp l K).1) ∧ w'.cell? ⟨wc.heap.size, 1, none⟩ = some (.int .i64 F) ∧ w'.cell? ⟨wc.heap.size, 2, none⟩ = some (.int .i64 T) ∧ w'.cell? ⟨wc.heap.size, 3, none⟩ = some (.int .i64 (pp l K).2.2.2) ∧ w'.cell? ⟨b1, off1 + K, none⟩ = some (.int .i64 q))) (by kernel_rfl) (by kernel_rfl) (X9.out) ?_
        repeat
          first
            | go_big_quiet_skip
            | (go_big_quiet_want
               first
                 | (unfold Oper.quiet
                    apply Exists.intro
                    refine ⟨fun wq hq => ?_, ?_⟩
                    · (try dsimp only at hq
                       simp [go_sem, Oper.quietAt, Oper.quietUpon, BigFrame.eval_const, BigFrame.eval_global, BigFrame.eval_func, ↓IntWalk.iteOmega, *]
                       first | done | rfl | (refine calm_call hq (LossC.keep wc wc.heap.size b1 off1 K (pp l K).1 F T (pp l K).2.2.2 q) (s_l9Loss _ _ _ _ _ _ hsz hfq) (by rw [HLO.out])))
                    simp only [Act.put, List.setIfInBounds_toArray, List.set_cons_succ, List.set_cons_zero]
                    go_big_quiet_on))
        refine wpQuiet_nil ?_
        intro wc hcalm
        try dsimp only at hcalm
        rename_i w9
        have HC9 := hid hcalm.1
        have p1 := hcalm.2.2.1
        have p2 := hcalm.2.2.2.1
        clear hcalm X9
        go_wp2
        go_roundg (d - (j + 1))
        case rel => exact ⟨j + 1, T, by omega, rfl, rfl, by rw [HS.out, HSG.out], by go_num, hid (by rw [HNS.out]; exact HOT.out), hid (bstep (bstep hh.out HC.out) HC9.out)⟩
        case measure => omega
      · have hTV : V = T := by have := HVE.out; omega
        have hFV : ((F : Int) == (V : Int)) = false := by simp; omega
        have HSG := hid (sgl_to (fs := fs) (v := (V : Int)) (k := K) (by rw [HFF.out]; omega))
        have HOT := hid (oth_to (v := (V : Int)) HP.out.2.2.2.1 (by rw [HTT.out]; omega) HFF.out)
        rw [HSG.out] at lg
        have hw9 := IntWalk.i64_in (lsum l fs (far l 0 t) v0 j - loss l fs K) (by omega)
        go_upto_region 11 with fail
        have hbp : Below wc.heap.size wc (wc.alloc (.cells #[.int .i64 (pp l K).1, .int .i64 F, .int .i64 T, .int .i64 (pp l K).2.2.2] 75)) := by go_grown
        have X9 := hid (show LossC wc wc.heap.size b1 off1 K (pp l K).1 F T (pp l K).2.2.2 q (wc.alloc (.cells #[.int .i64 (pp l K).1, .int .i64 F, .int .i64 T, .int .i64 (pp l K).2.2.2] 75)).drew from ⟨hbp.drew, cell_of_row _ _ 0 _ _ (0, 0) (heap_alloc_new _ _), cell_of_row _ _ 1 _ _ (0, 0) (heap_alloc_new _ _), cell_of_row _ _ 2 _ _ (0, 0) (heap_alloc_new _ _), cell_of_row _ _ 3 _ _ (0, 0) (heap_alloc_new _ _), (hbp.cell (p := ⟨b1, off1 + K, none⟩) hb1w).trans hfc⟩)
        clear hbp hfc y0 y1 y2 y3
        refine wp_region_calm (C := (fun w' => Below wc.heap.size wc w' ∧ w'.cell? ⟨wc.heap.size, 0, none⟩ = some (.int .i64 (pp l K).1) ∧ w'.cell? ⟨wc.heap.size, 1, none⟩ = some (.int .i64 F) ∧ w'.cell? ⟨wc.heap.size, 2, none⟩ = some (.int .i64 T) ∧ w'.cell? ⟨wc.heap.size, 3, none⟩ = some (.int .i64 (pp l K).2.2.2) ∧ w'.cell? ⟨b1, off1 + K, none⟩ = some (.int .i64 q))) (by kernel_rfl) (by kernel_rfl) (X9.out) ?_
        repeat
          first
            | go_big_quiet_skip
            | (go_big_quiet_want
               first
                 | (unfold Oper.quiet
                    apply Exists.intro
                    refine ⟨fun wq hq => ?_, ?_⟩
                    · (try dsimp only at hq
                       simp [go_sem, Oper.quietAt, Oper.quietUpon, BigFrame.eval_const, BigFrame.eval_global, BigFrame.eval_func, ↓IntWalk.iteOmega, *]
                       first | done | rfl | (refine calm_call hq (LossC.keep wc wc.heap.size b1 off1 K (pp l K).1 F T (pp l K).2.2.2 q) (s_l9Loss _ _ _ _ _ _ hsz hfq) (by rw [HLO.out])))
                    simp only [Act.put, List.setIfInBounds_toArray, List.set_cons_succ, List.set_cons_zero]
                    go_big_quiet_on))
        refine wpQuiet_nil ?_
        intro wc hcalm
        try dsimp only at hcalm
        rename_i w9
        have HC9 := hid hcalm.1
        have p1 := hcalm.2.2.1
        have p2 := hcalm.2.2.2.1
        clear hcalm X9
        go_wp2
        go_roundg (d - (j + 1))
        case rel => exact ⟨j + 1, F, by omega, rfl, rfl, by rw [HS.out, HSG.out, Int.sub_eq_add_neg], by go_num, hid (by rw [HNS.out]; exact HOT.out), hid (bstep (bstep hh.out HC.out) HC9.out)⟩
        case measure => omega
    · obtain rfl : j = d := by omega
      go_wp2
      go_ret
      exact ⟨rfl, bstep BA.out (bstep HB1.out hh.out)⟩

end Go.Proofs.Ythhogblnndmenaa
