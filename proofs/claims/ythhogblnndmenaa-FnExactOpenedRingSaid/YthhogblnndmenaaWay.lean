/-
  The reference's shortest way.
-/
import Derived.Test.YthhogblnndmenaaSteps
set_option linter.unusedVariables false
set_option linter.unusedSimpArgs false
namespace Go.Proofs.Ythhogblnndmenaa
open Go.RowKit

theorem stepB_yes {l : List Pip} {f : Int → Int} {v x : Int} {k : Nat} (ho : oth (pp l k) v = x) (hx : 0 < x) (h : f x = f v - 1) : stepB l f v k = true := stepB_iff.2 ⟨by rw [ho]; exact hx, by rw [ho]; exact h⟩
theorem stepB_no {l : List Pip} {f : Int → Int} {v x : Int} {k : Nat} (ho : oth (pp l k) v = x) (h : ¬ (0 < x ∧ f x = f v - 1)) : stepB l f v k = false := by
  cases e : stepB l f v k
  · rfl
  · rw [stepB_iff, ho] at e
    exact absurd e h
theorem oth_from {p : Pip} {v x : Int} (h1 : p.2.1 = v) (h2 : p.2.2.1 = x) : oth p v = x := by unfold oth; rw [if_pos h1.symm]; exact h2
theorem oth_to {p : Pip} {v x : Int} (h0 : p.2.1 ≠ p.2.2.1) (h1 : p.2.2.1 = v) (h2 : p.2.1 = x) : oth p v = x := by unfold oth; rw [if_neg (fun e => h0 (by rw [h1, e])), if_pos h1.symm]; exact h2
theorem oth_none {p : Pip} {v : Int} (h1 : p.2.1 ≠ v) (h2 : p.2.2.1 ≠ v) : oth p v = 0 := by unfold oth; rw [if_neg (fun e => h1 e.symm), if_neg (fun e => h2 e.symm)]
/-- The first pipe that leads nearer is the one at hand. -/
theorem kk_hit {l : List Pip} {f : Int → Int} {v0 : Int} {j k : Nat} {V : Int} (hV : nod l f v0 j = V) (hk : k < l.length) (h : stepB l f V k = true) (hm : ∀ i, i < k → stepB l f V i = false) : kk l f v0 j = k := by
  unfold kk
  rw [hV]
  exact firstK_hit hk h hm
theorem all_nextB {p : Nat → Bool} {k : Nat} (h : ∀ j, j < k → p j = false) (hk : p k = false) : ∀ j, j < k + 1 → p j = false := fun j hj => by
  by_cases e : j = k
  · subst e; exact hk
  · exact h j (by omega)

set_option maxRecDepth 100000 in
set_option maxHeartbeats 8000000 in
theorem s_l2Way (M v0 t : Nat) (a : Option Addr) (n c : Nat) (l : List Pip) (w : World) (h : QAt w a n l) (hg : goodNet M l = true) (hv : 1 ≤ v0 ∧ v0 ≤ M) (ht : 1 ≤ t ∧ t ≤ M) (d : Nat) (hd : far l 0 t v0 = d) :
    Calls Try.prog 106 #[.agg #[.int .i64 M, .slice a n c], .int .i64 v0, .int .i64 t] w fun e w' => ∃ a' c', e = .returned (.slice a' d c') ∧ OwnI w' w.heap.size (.slice a' d c') (wids l (far l 0 t) v0 d) ∧ Below w.heap.size w w' := by
  have hM : M ≤ 8 := by have := (goodNet_get hg).1; omega
  have hn : n ≤ 10 := by have := (goodNet_get hg).2.1; have := h.1; omega
  have hdM : d < M := by have := far_lt (wo := 0) (v := (v0 : Int)) hg (show 1 ≤ (t : Int) ∧ (t : Int) ≤ M by omega) (by omega) (by omega); omega
  have HLN := hid h.1
  have H := hid h
  have HG := hid hg
  have HDF := hid hd
  clear h hg hd
  go_enter Try.func106, Try.ntmps106
  go_upto_region 1 with fail
  have BA := hid (by go_grown : Below w.heap.size w (w.alloc (.cells #[.int .i64 M, .slice a n c] 31)))
  have N0 := hid (cell_of_row _ _ 0 _ _ (0, 0) (heap_alloc_new w (.cells #[.int .i64 M, .slice a n c] 31)))
  have N1 := hid (cell_of_row _ _ 1 _ _ (0, 0) (heap_alloc_new w (.cells #[.int .i64 M, .slice a n c] 31)))
  have hzA : w.heap.size < (w.alloc (.cells #[.int .i64 M, .slice a n c] 31)).heap.size := by simp
  have n0 := N0.out
  have n1 := N1.out
  simp only [List.getElem?_toArray, List.getElem?_cons_zero, List.getElem?_cons_succ] at n0 n1
  generalize w.alloc (.cells #[.int .i64 M, .slice a n c] 31) = wA at *
  go_wp2_with fail
  refine (s_l2Steps M t _ _ _ l _ (H.out.below BA.out) HG.out ht).mono ?_
  rintro e w1 ⟨g1, c1, rfl, ho1, hb1⟩
  have HO1 := hid ho1
  have HB1 := hid hb1
  have hz1 : w.heap.size < w1.heap.size := by have := hb1.size; omega
  have hgs := ho1.lt g1 rfl
  clear ho1 hb1 n0 n1
  have n1 := (HB1.out.cell (p := ⟨w.heap.size, 1, none⟩) hzA).trans N1.out
  go_wp2
  go_loopg [1, 8, 9, 10, 11] d (fun g fr o i9 i10 i11 wr => ∃ (j V : Nat) (a' : Option Addr) (c' : Nat), j ≤ d ∧ g = d - j ∧ fr = .int .i64 V ∧ o = .slice a' j c' ∧ Hid (nod l (far l 0 t) v0 j = V) ∧ Hid (OwnI wr w1.heap.size (.slice a' j c') (wids l (far l 0 t) v0 j) ∧ Below w1.heap.size w1 wr))
  case atStart => exact ⟨0, v0, _, 0, Nat.zero_le _, rfl, rfl, rfl, hid rfl, hid ⟨by simpa [wids] using OwnI.lit0 w1, by go_grown⟩⟩
  case round =>
    obtain ⟨j, V, a', c', hj, rfl, rfl, rfl, hV, hh⟩ := hrel
    obtain ⟨W1, hW1⟩ : ∃ W, W = wr := ⟨_, rfl⟩
    subst hW1
    have NK := hid (nod_ok (t := (t : Int)) (v0 := (v0 : Int)) HG.out (by omega) (by omega) j (by rw [HDF.out]; omega))
    have NE := hid (nod_end (t := (t : Int)) (v0 := (v0 : Int)) (j := j) HG.out (by omega) (by omega) (by rw [HDF.out]; omega))
    rw [hV.out, HDF.out] at NK NE
    have hVM : 1 ≤ V ∧ V ≤ M := by have := NK.out.1; omega
    by_cases hlt : j < d
    · have hne : ¬ V = t := fun e => by
        have := NE.out.1 (by rw [e])
        omega
      have KK := hid (kk_ok (t := (t : Int)) (v0 := (v0 : Int)) (j := j) HG.out (by omega) (by omega) (by rw [HDF.out]; omega))
      rw [hV.out] at KK
      go_wp2
      go_loopg [1, 8, 9, 10, 11] n (fun gm fr o i x10 x11 wr => ∃ k : Nat, k ≤ n ∧ gm = n - k ∧ i = .int .i64 k ∧ fr = .int .i64 V ∧ o = .slice a' j c' ∧ Hid (∀ i, i < k → stepB l (far l 0 t) V i = false) ∧ Hid (Below W1.heap.size W1 wr))
      case atStart => exact ⟨0, Nat.zero_le _, rfl, rfl, rfl, rfl, hid (fun i hi => absurd hi (by omega)), hid (Below.refl _ _)⟩
      case round =>
        obtain ⟨k, hk, rfl, rfl, rfl, rfl, hm, hb⟩ := hrel
        have hb1 := hid (bstep hh.out.2 hb.out)
        clear n1
        have n1 := ((hb1.out.cell (p := ⟨w.heap.size, 1, none⟩) hz1).trans (HB1.out.cell (p := ⟨w.heap.size, 1, none⟩) hzA)).trans N1.out
        have hz0 : w.heap.size < wr.heap.size := World.block_lt_of_cell? wr _ n1
        by_cases hlt2 : k < n
        · obtain ⟨b0, off0, rfl, hbw, x0, x1, x2, x3⟩ := QAt.get (H.out.below (bstep (bstep BA.out HB1.out) hb1.out)) k hlt2
          have hkl : k < l.length := by have := HLN.out; omega
          have HP := hid (goodNet_pipe HG.out hkl)
          obtain ⟨F, hF⟩ : ∃ F : Nat, (pp l k).2.1 = F := ⟨(pp l k).2.1.toNat, by have := HP.out.2.1; omega⟩
          obtain ⟨T, hT⟩ : ∃ T : Nat, (pp l k).2.2.1 = T := ⟨(pp l k).2.2.1.toNat, by have := HP.out.2.2.1; omega⟩
          have hF1 : 1 ≤ F ∧ F ≤ M := by have := HP.out.2.1; omega
          have hT1 : 1 ≤ T ∧ T ≤ M := by have := HP.out.2.2.1; omega
          have HPN := hid HP.out.2.2.2.1
          rw [hF] at x1
          rw [hT] at x2
          have HFF := hid hF
          have HTT := hid hT
          have HKL := hid hkl
          clear hF hT hkl
          by_cases eF : F = V
          · subst eF
            have HOT := hid (oth_from HFF.out HTT.out)
            obtain ⟨fN, hfN⟩ : ∃ fN, far l 0 t T = fN := ⟨_, rfl⟩
            obtain ⟨fV, hfV⟩ : ∃ fV, far l 0 t F = fV := ⟨_, rfl⟩
            have DN := hid (show (distL M l 0 t)[T]?.getD 0 = fN by rw [distL_at (by omega) (by omega)]; exact hfN)
            have DV := hid (show (distL M l 0 t)[F]?.getD 0 = fV by rw [distL_at (by omega) (by omega)]; exact hfV)
            have hfV1 : fV = d - j := by have := NK.out.2; rw [hfV] at this; exact this
            have hfVb : 0 ≤ fV ∧ fV ≤ 8 := by omega
            have X0 : (0 : Int) ≤ (T : Int) := by omega
            have X1 : (T : Int) < ((M + 1 : Nat) : Int) := by omega
            have X2 : T < M + 1 := by omega
            have X3 : (0 : Int) < (T : Int) := by omega
            have V0 : (0 : Int) ≤ (F : Int) := by omega
            have V1 : (F : Int) < ((M + 1 : Nat) : Int) := by omega
            have V2 : F < M + 1 := by omega
            have V3 : 0 < T := by omega
            have hgw : g1 < wr.heap.size := by have := hb1.out.size; omega
            have cN := (hb1.out.cell (p := ⟨g1, T, none⟩) hgs.2).trans (HO1.out.cell (k := T) X2)
            have cV := (hb1.out.cell (p := ⟨g1, F, none⟩) hgs.2).trans (HO1.out.cell (k := F) V2)
            rw [DN.out] at cN
            rw [DV.out] at cV
            have HFN := hid hfN
            have HFV := hid hfV
            clear hfN hfV hfV1
            by_cases hs : fN = fV - 1
            · have SB := hid (stepB_yes (f := far l 0 t) HOT.out X3 (by rw [HFN.out, HFV.out]; exact hs))
              have E := hid (kk_hit hV.out HKL.out SB.out hm.out)
              have hs1 : fN ≤ fV - 1 := by omega
              have hs2 : fV - 1 ≤ fN := by omega
              have hsb : (fN == fV - 1) = true := by simpa using hs
              clear hs
              go_upto_region 13 with fail
              go_quiet (fail)
              have BX := hid (bstep hb.out (bstep (by go_grown : Below wr.heap.size wr (wr.alloc (.cells #[.int .i64 (pp l k).1, .int .i64 F, .int .i64 T, .int .i64 (pp l k).2.2.2] 75))) (bdraws nq)))
              have pc := ((bdraws nq : Below (wr.alloc (.cells #[.int .i64 (pp l k).1, .int .i64 F, .int .i64 T, .int .i64 (pp l k).2.2.2] 75)).heap.size (wr.alloc (.cells #[.int .i64 (pp l k).1, .int .i64 F, .int .i64 T, .int .i64 (pp l k).2.2.2] 75)) _).cell (p := ⟨wr.heap.size, 0, none⟩) (by simp)).trans (cell_of_row _ _ 0 _ _ (0, 0) (heap_alloc_new wr (.cells #[.int .i64 (pp l k).1, .int .i64 F, .int .i64 T, .int .i64 (pp l k).2.2.2] 75)))
              simp only [List.getElem?_toArray, List.getElem?_cons_zero] at pc
              generalize (wr.alloc (.cells #[.int .i64 (pp l k).1, .int .i64 F, .int .i64 T, .int .i64 (pp l k).2.2.2] 75)).drewN nq = wq at *
              have BY := hid (bstep hh.out.2 BX.out)
              have ho2 := hh.out.1.below BX.out
              go_wp2_with (at_builtin; refine wp_append_ints _ rfl _ _ rfl w1.heap.size _ (wids l (far l 0 t) v0 j) rfl (ho2.alloc _) _ 1 1 [(pp l k).1] rfl (IntsAt.single _ _) (j + 1) (by simp [wids_len]) (by omega) (by have := BY.out.size; simp; omega) ?_)
              intro a2 c2 w5 hown hgrow hblk
              have S2 := hid (show OwnI w5 w1.heap.size (.slice a2 (j + 1) c2) (wids l (far l 0 t) v0 (j + 1)) ∧ Below w1.heap.size w1 w5 from
                ⟨by rw [wids_succ, E.out]; exact hown, (bstep BY.out (by go_grown)).grown hgrow (by have := BY.out.size; simp; omega) (fun q hq => (hh.out.1.lt q hq).1)⟩)
              clear hown hgrow hblk ho2
              go_wp2
              go_roundg (d - (j + 1))
              case rel => exact ⟨j + 1, T, _, _, by omega, rfl, rfl, rfl, hid (by rw [nod_succ, E.out, hV.out]; exact HOT.out), S2⟩
              case measure => omega
            · have SB := hid (stepB_no (f := far l 0 t) HOT.out (fun e => hs (by have := e.2; rw [HFN.out, HFV.out] at this; exact this)))
              have hsb : (fN == fV - 1) = false := by simpa using hs
              go_upto_region 13 with fail
              go_quiet (fail)
              go_wp2
              go_roundg (n - (k + 1))
              case rel => exact ⟨k + 1, by omega, rfl, by go_num, rfl, rfl, hid (all_nextB hm.out SB.out), hid (bstep hb.out (bstep (by go_grown) (bdraws _)))⟩
              case measure => omega
          · have hFV : ((F : Int) == (V : Int)) = false := by simp; omega
            by_cases eT : T = V
            · subst eT
              have HOT := hid (oth_to HPN.out HTT.out HFF.out)
              obtain ⟨fN, hfN⟩ : ∃ fN, far l 0 t F = fN := ⟨_, rfl⟩
              obtain ⟨fV, hfV⟩ : ∃ fV, far l 0 t T = fV := ⟨_, rfl⟩
              have DN := hid (show (distL M l 0 t)[F]?.getD 0 = fN by rw [distL_at (by omega) (by omega)]; exact hfN)
              have DV := hid (show (distL M l 0 t)[T]?.getD 0 = fV by rw [distL_at (by omega) (by omega)]; exact hfV)
              have hfV1 : fV = d - j := by have := NK.out.2; rw [hfV] at this; exact this
              have hfVb : 0 ≤ fV ∧ fV ≤ 8 := by omega
              have X0 : (0 : Int) ≤ (F : Int) := by omega
              have X1 : (F : Int) < ((M + 1 : Nat) : Int) := by omega
              have X2 : F < M + 1 := by omega
              have X3 : (0 : Int) < (F : Int) := by omega
              have V0 : (0 : Int) ≤ (T : Int) := by omega
              have V1 : (T : Int) < ((M + 1 : Nat) : Int) := by omega
              have V2 : T < M + 1 := by omega
              have V3 : 0 < F := by omega
              have hgw : g1 < wr.heap.size := by have := hb1.out.size; omega
              have cN := (hb1.out.cell (p := ⟨g1, F, none⟩) hgs.2).trans (HO1.out.cell (k := F) X2)
              have cV := (hb1.out.cell (p := ⟨g1, T, none⟩) hgs.2).trans (HO1.out.cell (k := T) V2)
              rw [DN.out] at cN
              rw [DV.out] at cV
              have HFN := hid hfN
              have HFV := hid hfV
              clear hfN hfV hfV1
              by_cases hs : fN = fV - 1
              · have SB := hid (stepB_yes (f := far l 0 t) HOT.out X3 (by rw [HFN.out, HFV.out]; exact hs))
                have E := hid (kk_hit hV.out HKL.out SB.out hm.out)
                have hs1 : fN ≤ fV - 1 := by omega
                have hs2 : fV - 1 ≤ fN := by omega
                have hsb : (fN == fV - 1) = true := by simpa using hs
                clear hs
                go_upto_region 13 with fail
                go_quiet (fail)
                have BX := hid (bstep hb.out (bstep (by go_grown : Below wr.heap.size wr (wr.alloc (.cells #[.int .i64 (pp l k).1, .int .i64 F, .int .i64 T, .int .i64 (pp l k).2.2.2] 75))) (bdraws nq)))
                have pc := ((bdraws nq : Below (wr.alloc (.cells #[.int .i64 (pp l k).1, .int .i64 F, .int .i64 T, .int .i64 (pp l k).2.2.2] 75)).heap.size (wr.alloc (.cells #[.int .i64 (pp l k).1, .int .i64 F, .int .i64 T, .int .i64 (pp l k).2.2.2] 75)) _).cell (p := ⟨wr.heap.size, 0, none⟩) (by simp)).trans (cell_of_row _ _ 0 _ _ (0, 0) (heap_alloc_new wr (.cells #[.int .i64 (pp l k).1, .int .i64 F, .int .i64 T, .int .i64 (pp l k).2.2.2] 75)))
                simp only [List.getElem?_toArray, List.getElem?_cons_zero] at pc
                generalize (wr.alloc (.cells #[.int .i64 (pp l k).1, .int .i64 F, .int .i64 T, .int .i64 (pp l k).2.2.2] 75)).drewN nq = wq at *
                have BY := hid (bstep hh.out.2 BX.out)
                have ho2 := hh.out.1.below BX.out
                go_wp2_with (at_builtin; refine wp_append_ints _ rfl _ _ rfl w1.heap.size _ (wids l (far l 0 t) v0 j) rfl (ho2.alloc _) _ 1 1 [(pp l k).1] rfl (IntsAt.single _ _) (j + 1) (by simp [wids_len]) (by omega) (by have := BY.out.size; simp; omega) ?_)
                intro a2 c2 w5 hown hgrow hblk
                have S2 := hid (show OwnI w5 w1.heap.size (.slice a2 (j + 1) c2) (wids l (far l 0 t) v0 (j + 1)) ∧ Below w1.heap.size w1 w5 from
                  ⟨by rw [wids_succ, E.out]; exact hown, (bstep BY.out (by go_grown)).grown hgrow (by have := BY.out.size; simp; omega) (fun q hq => (hh.out.1.lt q hq).1)⟩)
                clear hown hgrow hblk ho2
                go_wp2
                go_roundg (d - (j + 1))
                case rel => exact ⟨j + 1, F, _, _, by omega, rfl, rfl, rfl, hid (by rw [nod_succ, E.out, hV.out]; exact HOT.out), S2⟩
                case measure => omega
              · have SB := hid (stepB_no (f := far l 0 t) HOT.out (fun e => hs (by have := e.2; rw [HFN.out, HFV.out] at this; exact this)))
                have hsb : (fN == fV - 1) = false := by simpa using hs
                go_upto_region 13 with fail
                go_quiet (fail)
                go_wp2
                go_roundg (n - (k + 1))
                case rel => exact ⟨k + 1, by omega, rfl, by go_num, rfl, rfl, hid (all_nextB hm.out SB.out), hid (bstep hb.out (bstep (by go_grown) (bdraws _)))⟩
                case measure => omega
            · have hTV : ((T : Int) == (V : Int)) = false := by simp; omega
              have SB := hid (stepB_no (f := far l 0 t) (oth_none (p := pp l k) (v := (V : Int)) (by rw [HFF.out]; omega) (by rw [HTT.out]; omega)) (by omega))
              go_upto_region 13 with fail
              go_quiet (fail)
              go_wp2
              go_roundg (n - (k + 1))
              case rel => exact ⟨k + 1, by omega, rfl, by go_num, rfl, rfl, hid (all_nextB hm.out SB.out), hid (bstep hb.out (bstep (by go_grown) (bdraws _)))⟩
              case measure => omega
        · have := KK.out.1
          have h9 := hm.out (kk l (far l 0 t) v0 j) (by have := HLN.out; omega)
          rw [KK.out.2.1] at h9
          cases h9
    · obtain rfl : j = d := by omega
      have hVt : V = t := by
        have := NE.out.2 rfl
        omega
      subst hVt
      go_wp2
      go_ret
      exact ⟨_, _, rfl, hh.out.1.mono (by omega), bstep BA.out (bstep HB1.out hh.out.2)⟩

end Go.Proofs.Ythhogblnndmenaa
