/-
  LossAlong, in the program.
-/
import Derived.Test.YthhogblnndmenaaAlong
import Derived.Test.YthhogblnndmenaaWayI
set_option linter.unusedVariables false
set_option linter.unusedSimpArgs false
namespace Go.Proofs.Ythhogblnndmenaa
open Go.RowKit

/-- What LossAlong returns. -/
noncomputable def alongR (N : Int) (l : List Pip) (fs : List Int) (v t : Int) : Int × Bool := if (goodNet N l && inR v 1 N) = true ∧ inR t 1 N = true ∧ goodFl l.length fs = true ∧ 0 ≤ far l 0 t v then (lsum l fs (far l 0 t) v (far l 0 t v).toNat, true) else (0, false)
theorem alongR_no {N : Int} {l : List Pip} {fs : List Int} {v t : Int} (h : (goodNet N l && inR v 1 N) = false ∨ inR t 1 N = false ∨ goodFl l.length fs = false ∨ far l 0 t v < 0) : alongR N l fs v t = (0, false) := by
  unfold alongR
  rw [if_neg]
  rintro ⟨h1, h2, h3, h4⟩
  rcases h with h | h | h | h
  · rw [h] at h1; cases h1
  · rw [h] at h2; cases h2
  · rw [h] at h3; cases h3
  · omega

set_option maxRecDepth 100000 in
set_option maxHeartbeats 8000000 in
theorem i_LossAlong (N v t : Int) (a p : Option Addr) (n c m e0 : Nat) (l : List Pip) (fs : List Int) (w : World) (h : QAt w a n l) (h' : IntsAt w p m fs) (hn : n ≤ 1048576) (hm : m ≤ 1048576) (x : Int) (b : Bool) (hR : alongR N l fs v t = (x, b)) :
    Calls Try.prog 25 #[.agg #[.int .i64 N, .slice a n c], .slice p m e0, .int .i64 v, .int .i64 t] w fun e w' => e = .returned (.tuple #[.int .i64 x, .bool b]) ∧ Below w.heap.size w w' := by
  have hl := h.1
  have hl' := h'.1
  have H := hid h
  have H' := hid h'
  clear h h'
  by_cases h1 : (goodNet N l && inR v 1 N) = false ∨ inR t 1 N = false ∨ far l 0 t v < 0
  · have e0 : alongR N l fs v t = (0, false) := alongR_no (by
      rcases h1 with h | h | h
      · exact .inl h
      · exact .inr (.inl h)
      · exact .inr (.inr (.inr h)))
    rw [e0] at hR
    cases hR
    have HW := hid (wayR_no h1)
    clear h1 e0
    go_enter Try.func25, Try.ntmps25
    go_wp2_with fail
    refine (i_ShortestWay N v t _ _ _ l _ (H.out.below (by go_grown)) hn _ _ HW.out).mono ?_
    rintro e w1 ⟨a1, c1, rfl, ho1, hb1⟩
    have HB1 := hid (bstep (by go_grown) hb1 : Below w.heap.size w w1)
    clear ho1 hb1
    go_wp2
    go_ret2
    exact ⟨rfl, HB1.out⟩
  · simp only [not_or, Bool.not_eq_false, Int.not_lt] at h1
    obtain ⟨g0, g1, g2⟩ := h1
    obtain ⟨k1, k2⟩ := (Bool.and_eq_true _ _).mp g0
    have hN := (goodNet_get k1).1
    obtain ⟨M, rfl⟩ : ∃ M : Nat, N = M := ⟨N.toNat, by omega⟩
    have e1 := inR_iff.1 k2
    have e2 := inR_iff.1 g1
    obtain ⟨v0, rfl⟩ : ∃ v0 : Nat, v = v0 := ⟨v.toNat, by omega⟩
    obtain ⟨t0, rfl⟩ : ∃ t0 : Nat, t = t0 := ⟨t.toNat, by omega⟩
    obtain ⟨d, hd⟩ : ∃ d : Nat, far l 0 t0 v0 = d := ⟨(far l 0 t0 v0).toNat, by omega⟩
    have HW := hid (show wayR M l v0 t0 = (wids l (far l 0 t0) v0 d, true) by
      unfold wayR
      rw [if_pos ⟨g0, g1, g2⟩, hd]
      rfl)
    have HLN := hid hl
    have hM : M ≤ 8 := by omega
    have hn10 : n ≤ 10 := by have := (goodNet_get k1).2.1; omega
    cases h2 : goodFl l.length fs
    · rw [alongR_no (.inr (.inr (.inl h2)))] at hR
      cases hR
      have H2 := hid (show goodFl n fs = false by rw [← hl]; exact h2)
      clear h2 g0 g1 g2 k1 k2 hN hd
      go_enter Try.func25, Try.ntmps25
      go_wp2_with fail
      refine (i_ShortestWay _ _ _ _ _ _ l _ (H.out.below (by go_grown)) hn _ _ HW.out).mono ?_
      rintro e w1 ⟨a1, c1, rfl, ho1, hb1⟩
      rw [wids_len] at ho1
      rw [wids_len]
      have HB1 := hid (bstep (by go_grown) hb1 : Below w.heap.size w w1)
      have HO1 := hid ho1
      have n0 := (hb1.cell (p := ⟨w.heap.size, 0, none⟩) (by simp)).trans (cell_of_row _ _ 0 _ _ (0, 0) (heap_alloc_new _ _))
      have n1 := (hb1.cell (p := ⟨w.heap.size, 1, none⟩) (by simp)).trans (cell_of_row _ _ 1 _ _ (0, 0) (heap_alloc_new _ _))
      simp only [List.getElem?_toArray, List.getElem?_cons_zero, List.getElem?_cons_succ] at n0 n1
      have M0 := hid n0
      have M1 := hid n1
      have hz_w1_0 : w.heap.size < w1.heap.size := World.block_lt_of_cell? w1 _ n0
      clear ho1 hb1
      go_wp2_with fail
      refine (i_areFlows _ _ _ n _ _ _ fs _ (H'.out.below HB1.out) hm).mono ?_
      rintro e w2 ⟨rfl, hb2⟩
      rw [H2.out]
      go_wp2
      go_ret2
      exact ⟨rfl, bstep HB1.out hb2⟩
    · have e0 : alongR M l fs v0 t0 = (lsum l fs (far l 0 t0) v0 d, true) := by
        unfold alongR
        rw [if_pos ⟨g0, g1, h2, g2⟩, hd]
        rfl
      rw [e0] at hR
      cases hR
      have hmn : m = n := by have := (goodFl_iff.1 h2).1; omega
      subst hmn
      have hdM : d < M := by have := far_lt (wo := 0) (v := (v0 : Int)) k1 (show 1 ≤ (t0 : Int) ∧ (t0 : Int) ≤ M by omega) (by omega) (by omega); omega
      have hv : 1 ≤ v0 ∧ v0 ≤ M := by omega
      have ht : 1 ≤ t0 ∧ t0 ≤ M := by omega
      have H2 := hid (show goodFl m fs = true by rw [← hl]; exact h2)
      have HF := hid h2
      have HG := hid k1
      have HDF := hid hd
      clear h2 g0 g1 g2 k1 k2 hN hd e0
      go_enter Try.func25, Try.ntmps25
      go_wp2_with fail
      refine (i_ShortestWay _ _ _ _ _ _ l _ (H.out.below (by go_grown)) hn _ _ HW.out).mono ?_
      rintro e w1 ⟨a1, c1, rfl, ho1, hb1⟩
      rw [wids_len] at ho1
      rw [wids_len]
      have HB1 := hid (bstep (by go_grown) hb1 : Below w.heap.size w w1)
      have HO1 := hid ho1
      have n0 := (hb1.cell (p := ⟨w.heap.size, 0, none⟩) (by simp)).trans (cell_of_row _ _ 0 _ _ (0, 0) (heap_alloc_new _ _))
      have n1 := (hb1.cell (p := ⟨w.heap.size, 1, none⟩) (by simp)).trans (cell_of_row _ _ 1 _ _ (0, 0) (heap_alloc_new _ _))
      simp only [List.getElem?_toArray, List.getElem?_cons_zero, List.getElem?_cons_succ] at n0 n1
      have M0 := hid n0
      have M1 := hid n1
      have hz_w1_0 : w.heap.size < w1.heap.size := World.block_lt_of_cell? w1 _ n0
      clear ho1 hb1
      go_wp2_with fail
      refine (i_areFlows _ _ _ m _ _ _ fs _ (H'.out.below HB1.out) hm).mono ?_
      rintro e w2 ⟨rfl, hb2⟩
      rw [H2.out]
      have n0 := (hb2.cell (p := ⟨w.heap.size, 0, none⟩) hz_w1_0).trans M0.out
      have n1 := (hb2.cell (p := ⟨w.heap.size, 1, none⟩) hz_w1_0).trans M1.out
      have HB2 := hid (bstep HB1.out hb2)
      have HW2 := hid (HO1.out.below hb2)
      have hz2 : w.heap.size < w2.heap.size := World.block_lt_of_cell? w2 _ n0
      have K0 := hid n0
      have K1 := hid n1
      clear hb2
      go_wp2
      go_loopg [2, 12, 34] d (fun g fr sm i wr => ∃ j V : Nat, j ≤ d ∧ g = d - j ∧ fr = .int .i64 V ∧ sm = .int .i64 (lsum l fs (far l 0 t0) v0 j) ∧ i = .int .i64 j ∧ Hid (nod l (far l 0 t0) v0 j = V) ∧ Hid (Below w2.heap.size w2 wr))
      case atStart => exact ⟨0, v0, Nat.zero_le _, rfl, rfl, by simp [lsum], rfl, hid rfl, hid (by go_grown)⟩
      case round =>
        obtain ⟨j, V, hj, rfl, rfl, rfl, rfl, hV, hh⟩ := hrel
        have NK := hid (nod_ok (t := (t0 : Int)) (v0 := (v0 : Int)) HG.out (by omega) (by omega) j (by rw [HDF.out]; omega))
        rw [hV.out, HDF.out] at NK
        have hVM : 1 ≤ V ∧ V ≤ M := by have := NK.out.1; omega
        clear n0 n1
        have n0 := (hh.out.cell (p := ⟨w.heap.size, 0, none⟩) hz2).trans K0.out
        have n1 := (hh.out.cell (p := ⟨w.heap.size, 1, none⟩) hz2).trans K1.out
        have hz0 : w.heap.size < wr.heap.size := World.block_lt_of_cell? wr _ n0
        by_cases hlt : j < d
        · have KK := hid (kk_ok (t := (t0 : Int)) (v0 := (v0 : Int)) (j := j) HG.out (by omega) (by omega) (by rw [HDF.out]; omega))
          rw [hV.out] at KK
          obtain ⟨K, hK⟩ : ∃ K, kk l (far l 0 t0) v0 j = K := ⟨_, rfl⟩
          rw [hK] at KK
          have hKn : K < m := by have := KK.out.1; have := HLN.out; omega
          obtain ⟨bw, ow, rfl, hbw1, hwc⟩ := HW2.out.at.2 j hlt
          have hcw := (hh.out.cell (p := ⟨bw, ow + j, none⟩) hbw1).trans hwc
          rw [wids_get l _ _ hlt, hK] at hcw
          have HP := hid (goodNet_pipe HG.out KK.out.1)
          obtain ⟨F, hF⟩ : ∃ F : Nat, (pp l K).2.1 = F := ⟨(pp l K).2.1.toNat, by have := HP.out.2.1; omega⟩
          obtain ⟨T, hT⟩ : ∃ T : Nat, (pp l K).2.2.1 = T := ⟨(pp l K).2.2.1.toNat, by have := HP.out.2.2.1; omega⟩
          have HFQ := hid (findQ_at HG.out KK.out.1)
          have hpos := (stepB_iff.1 KK.out.2.1).1
          obtain ⟨X, hX⟩ : ∃ X : Nat, oth (pp l K) V = X := ⟨(oth (pp l K) V).toNat, by omega⟩
          have HFF := hid hF
          have HTT := hid hT
          have lf := lsum_fit (t := (t0 : Int)) (v0 := (v0 : Int)) HG.out HF.out (by omega) (by omega) j (by rw [HDF.out]; omega)
          have lg := sgl_fit (v := (V : Int)) HG.out HF.out KK.out.1
          have HS := hid (lsum_succ l fs (far l 0 t0) v0 j)
          rw [hK, hV.out] at HS
          have HNS := hid (show nod l (far l 0 t0) v0 (j + 1) = X from by rw [nod_succ, hK, hV.out]; exact hX)
          have HX2 := hid (show oth ((pp l K).1, (F : Int), (pp l K).2.2.1, (pp l K).2.2.2) V = X from by rw [← hF]; exact hX)
          clear hK hbw1 hwc hpos hX hF hT
          go_wp2_with fail
          refine (i_pipeIndex _ _ _ _ _ l _ (H.out.below (bstep HB2.out hh.out)) hn).mono ?_
          rintro e w3 ⟨rfl, hb3⟩
          rw [HFQ.out]
          have HB3 := hid (bstep hh.out hb3)
          have n0 := (hb3.cell (p := ⟨w.heap.size, 0, none⟩) hz0).trans n0
          have n1 := (hb3.cell (p := ⟨w.heap.size, 1, none⟩) hz0).trans n1
          have hz3 : w.heap.size < w3.heap.size := World.block_lt_of_cell? w3 _ n0
          clear hb3 hcw
          go_wp2_with fail
          refine (i_lossOf _ _ _ _ _ _ K l fs _ (H.out.below (bstep HB2.out HB3.out)) (H'.out.below (bstep HB2.out HB3.out)) HG.out H2.out hKn).mono ?_
          rintro e w4 ⟨rfl, hb4⟩
          have HB4 := hid (bstep HB3.out hb4)
          have n1 := (hb4.cell (p := ⟨w.heap.size, 1, none⟩) hz3).trans n1
          have hz4 : w.heap.size < w4.heap.size := World.block_lt_of_cell? w4 _ n1
          clear hb4
          obtain ⟨b0, off0, rfl, hbw, x0, x1, x2, x3⟩ := QAt.get (H.out.below (bstep HB2.out HB4.out)) K hKn
          rw [HFF.out] at x1
          by_cases eF : F = V
          · subst eF
            have HSG := hid (sgl_from (fs := fs) (v := (F : Int)) HFF.out.symm)
            rw [HSG.out] at lg
            go_wp2_with fail
            refine (i_other _ _ _ _ _ _).mono ?_
            rintro e w5 ⟨rfl, hb5⟩
            rw [HX2.out]
            have HB5 := hid (bstep HB4.out hb5)
            clear hb5
            go_wp2
            go_roundg (d - (j + 1))
            case rel => exact ⟨j + 1, X, by omega, rfl, rfl, (by rw [HS.out, HSG.out]), by go_num, HNS, HB5⟩
            case measure => omega
          · have hFV : ((F : Int) != (V : Int)) = true := by simp; omega
            have HSG := hid (sgl_to (fs := fs) (v := (V : Int)) (k := K) (by rw [HFF.out]; omega))
            rw [HSG.out] at lg
            go_wp2_with fail
            refine (i_other _ _ _ _ _ _).mono ?_
            rintro e w5 ⟨rfl, hb5⟩
            rw [HX2.out]
            have HB5 := hid (bstep HB4.out hb5)
            clear hb5
            go_wp2
            go_roundg (d - (j + 1))
            case rel => exact ⟨j + 1, X, by omega, rfl, rfl, (by rw [HS.out, HSG.out]), by go_num, HNS, HB5⟩
            case measure => omega
        · obtain rfl : j = d := by omega
          go_wp2
          go_ret2
          exact ⟨rfl, bstep HB2.out hh.out⟩

end Go.Proofs.Ythhogblnndmenaa
