/-
  The program's shortest way.
-/
import Derived.Test.YthhogblnndmenaaWay
import Derived.Test.YthhogblnndmenaaNode
set_option linter.unusedVariables false
set_option linter.unusedSimpArgs false
namespace Go.Proofs.Ythhogblnndmenaa
open Go.RowKit

/-- What ShortestWay returns. -/
noncomputable def wayR (N : Int) (l : List Pip) (v t : Int) : List Int × Bool := if (goodNet N l && inR v 1 N) = true ∧ inR t 1 N = true ∧ 0 ≤ far l 0 t v then (wids l (far l 0 t) v (far l 0 t v).toNat, true) else ([], false)
theorem wayR_no {N : Int} {l : List Pip} {v t : Int} (h : (goodNet N l && inR v 1 N) = false ∨ inR t 1 N = false ∨ far l 0 t v < 0) : wayR N l v t = ([], false) := by
  unfold wayR
  rw [if_neg]
  rintro ⟨h1, h2, h3⟩
  rcases h with h | h | h
  · rw [h] at h1; cases h1
  · rw [h] at h2; cases h2
  · omega

set_option maxRecDepth 100000 in
set_option maxHeartbeats 8000000 in
theorem i_ShortestWay (N v t : Int) (a : Option Addr) (n c : Nat) (l : List Pip) (w : World) (h : QAt w a n l) (hn : n ≤ 1048576) (R : List Int) (b : Bool) (hR : wayR N l v t = (R, b)) :
    Calls Try.prog 59 #[.agg #[.int .i64 N, .slice a n c], .int .i64 v, .int .i64 t] w fun e w' => ∃ a' c', e = .returned (.tuple #[.slice a' R.length c', .bool b]) ∧ OwnI w' w.heap.size (.slice a' R.length c') R ∧ Below w.heap.size w w' := by
  have hl := h.1
  have H := hid h
  clear h
  cases h1 : goodNet N l && inR v 1 N
  · rw [wayR_no (.inl h1)] at hR
    cases hR
    have H1 := hid h1
    clear h1
    go_enter Try.func59, Try.ntmps59
    go_wp2_with fail
    refine (i_hasNode _ _ _ _ _ l _ (H.out.below (by go_grown)) hn).mono ?_
    rintro e w8 ⟨rfl, hb8⟩
    rw [H1.out]
    obtain ⟨hc_w8, hf_w8⟩ := bcell hb8
    have hz_w8_0 : w.heap.size < w8.heap.size := by have := hb8.size; simp only [World.size_alloc] at this; omega
    have HB8 := hid (bstep (by go_grown) hb8 : Below w.heap.size w w8)
    go_wp2
    go_ret2
    exact ⟨_, _, rfl, OwnI.nil _ _, HB8.out⟩
  · have H1 := hid h1
    cases h2 : inR t 1 N
    · rw [wayR_no (.inr (.inl h2))] at hR
      cases hR
      have H2 := hid h2
      clear h1 h2
      go_enter Try.func59, Try.ntmps59
      go_wp2_with fail
      refine (i_hasNode _ _ _ _ _ l _ (H.out.below (by go_grown)) hn).mono ?_
      rintro e w8 ⟨rfl, hb8⟩
      rw [H1.out]
      obtain ⟨hc_w8, hf_w8⟩ := bcell hb8
      have hz_w8_0 : w.heap.size < w8.heap.size := by have := hb8.size; simp only [World.size_alloc] at this; omega
      have HB8 := hid (bstep (by go_grown) hb8 : Below w.heap.size w w8)
      go_wp2_with fail
      refine (i_has _ _ _ _ _ _).mono ?_
      rintro e w9 ⟨rfl, hb9⟩
      rw [H2.out]
      obtain ⟨hc_w9, hf_w9⟩ := bcell hb9
      have hz_w9_0 : w.heap.size < w9.heap.size := by have := hb9.size; omega
      have HB9 := hid (bstep HB8.out hb9 : Below w.heap.size w w9)
      go_wp2
      go_ret2
      exact ⟨_, _, rfl, OwnI.nil _ _, HB9.out⟩
    · have H2 := hid h2
      obtain ⟨g1, g2⟩ := (Bool.and_eq_true _ _).mp h1
      have hN := (goodNet_get g1).1
      obtain ⟨M, rfl⟩ : ∃ M : Nat, N = M := ⟨N.toNat, by omega⟩
      have e1 := inR_iff.1 g2
      have e2 := inR_iff.1 h2
      obtain ⟨v0, rfl⟩ : ∃ v0 : Nat, v = v0 := ⟨v.toNat, by omega⟩
      obtain ⟨t0, rfl⟩ : ∃ t0 : Nat, t = t0 := ⟨t.toNat, by omega⟩
      have hv : 1 ≤ v0 ∧ v0 ≤ M := by omega
      have ht : 1 ≤ t0 ∧ t0 ≤ M := by omega
      have HG := hid g1
      have HLN := hid hl
      have hM : M ≤ 8 := by omega
      have hn10 : n ≤ 10 := by have := (goodNet_get g1).2.1; omega
      obtain ⟨fd, hfd⟩ : ∃ fd, far l 0 t0 v0 = fd := ⟨_, rfl⟩
      have HD := hid (show (distL M l 0 t0)[v0]?.getD 0 = fd by rw [distL_at (by omega) (by omega)]; exact hfd)
      have i0 : (0 : Int) ≤ (v0 : Int) := by omega
      have i1 : (v0 : Int) < ((M + 1 : Nat) : Int) := by omega
      have i2 : v0 < M + 1 := by omega
      by_cases hf : fd < 0
      · rw [wayR_no (.inr (.inr (by omega)))] at hR
        cases hR
        clear h1 h2 g1 g2 hN hfd
        go_enter Try.func59, Try.ntmps59
        go_wp2_with fail
        refine (i_hasNode _ _ _ _ _ l _ (H.out.below (by go_grown)) hn).mono ?_
        rintro e w8 ⟨rfl, hb8⟩
        rw [H1.out]
        obtain ⟨hc_w8, hf_w8⟩ := bcell hb8
        have hz_w8_0 : w.heap.size < w8.heap.size := by have := hb8.size; simp only [World.size_alloc] at this; omega
        have HB8 := hid (bstep (by go_grown) hb8 : Below w.heap.size w w8)
        go_wp2_with fail
        refine (i_has _ _ _ _ _ _).mono ?_
        rintro e w9 ⟨rfl, hb9⟩
        rw [H2.out]
        obtain ⟨hc_w9, hf_w9⟩ := bcell hb9
        have hz_w9_0 : w.heap.size < w9.heap.size := by have := hb9.size; omega
        have HB9 := hid (bstep HB8.out hb9 : Below w.heap.size w w9)
        go_wp2_with fail
        refine (i_distances M t0 0 _ _ _ l _ (H.out.below HB9.out) HG.out (by omega)).mono ?_
        rintro e w1 ⟨ad, c1, rfl, ho1, hb1⟩
        obtain ⟨g1, rfl, hg1, hgl⟩ := own_some ho1 (by omega)
        have HO1 := hid ho1
        have hgs : w9.heap.size ≤ g1 ∧ g1 < w1.heap.size := ⟨hg1, hgl⟩
        have n1 := ((hb1.cell (p := ⟨w.heap.size, 1, none⟩) hz_w9_0).trans (hb9.cell (p := ⟨w.heap.size, 1, none⟩) hz_w8_0)).trans ((hb8.cell (p := ⟨w.heap.size, 1, none⟩) (by simp)).trans (cell_of_row _ _ 1 _ _ (0, 0) (heap_alloc_new _ _)))
        simp only [List.getElem?_toArray, List.getElem?_cons_zero, List.getElem?_cons_succ] at n1
        have NN := hid n1
        have dv0 := ho1.cell (k := v0) i2
        rw [HD.out] at dv0
        have HB3 := hid (bstep HB9.out hb1 : Below w.heap.size w w1)
        have hz_w1_0 : w.heap.size < w1.heap.size := by have := hb1.size; omega
        clear ho1 hb1 hb8 hb9 hc_w8 hf_w8 hc_w9 hf_w9 hg1 hgl
        go_wp2
        go_ret2
        exact ⟨_, _, rfl, OwnI.nil _ _, bstep HB3.out (by go_grown)⟩
      · obtain ⟨d, hd⟩ : ∃ d : Nat, fd = d := ⟨fd.toNat, by omega⟩
        have hdM : d < M := by have := far_lt (wo := 0) (v := (v0 : Int)) g1 (show 1 ≤ (t0 : Int) ∧ (t0 : Int) ≤ M by omega) (by omega) (by omega); omega
        have e0 : wayR M l v0 t0 = (wids l (far l 0 t0) v0 d, true) := by
          unfold wayR
          rw [if_pos ⟨h1, h2, by omega⟩]
          have : (far l 0 t0 v0).toNat = d := by omega
          rw [this]
        rw [e0] at hR
        cases hR
        rw [wids_len]
        have HDF := hid (show far l 0 t0 v0 = d by omega)
        have hf0 : 0 ≤ fd := by omega
        clear h1 h2 g1 g2 hN hfd e0
        go_enter Try.func59, Try.ntmps59
        go_wp2_with fail
        refine (i_hasNode _ _ _ _ _ l _ (H.out.below (by go_grown)) hn).mono ?_
        rintro e w8 ⟨rfl, hb8⟩
        rw [H1.out]
        obtain ⟨hc_w8, hf_w8⟩ := bcell hb8
        have hz_w8_0 : w.heap.size < w8.heap.size := by have := hb8.size; simp only [World.size_alloc] at this; omega
        have HB8 := hid (bstep (by go_grown) hb8 : Below w.heap.size w w8)
        go_wp2_with fail
        refine (i_has _ _ _ _ _ _).mono ?_
        rintro e w9 ⟨rfl, hb9⟩
        rw [H2.out]
        obtain ⟨hc_w9, hf_w9⟩ := bcell hb9
        have hz_w9_0 : w.heap.size < w9.heap.size := by have := hb9.size; omega
        have HB9 := hid (bstep HB8.out hb9 : Below w.heap.size w w9)
        go_wp2_with fail
        refine (i_distances M t0 0 _ _ _ l _ (H.out.below HB9.out) HG.out (by omega)).mono ?_
        rintro e w1 ⟨ad, c1, rfl, ho1, hb1⟩
        obtain ⟨g1, rfl, hg1, hgl⟩ := own_some ho1 (by omega)
        have HO1 := hid ho1
        have hgs : w9.heap.size ≤ g1 ∧ g1 < w1.heap.size := ⟨hg1, hgl⟩
        have n1 := ((hb1.cell (p := ⟨w.heap.size, 1, none⟩) hz_w9_0).trans (hb9.cell (p := ⟨w.heap.size, 1, none⟩) hz_w8_0)).trans ((hb8.cell (p := ⟨w.heap.size, 1, none⟩) (by simp)).trans (cell_of_row _ _ 1 _ _ (0, 0) (heap_alloc_new _ _)))
        simp only [List.getElem?_toArray, List.getElem?_cons_zero, List.getElem?_cons_succ] at n1
        have NN := hid n1
        have dv0 := ho1.cell (k := v0) i2
        rw [HD.out] at dv0
        have HB3 := hid (bstep HB9.out hb1 : Below w.heap.size w w1)
        have hz_w1_0 : w.heap.size < w1.heap.size := by have := hb1.size; omega
        clear ho1 hb1 hb8 hb9 hc_w8 hf_w8 hc_w9 hf_w9 hg1 hgl
        go_wp2
        go_loopg [1, 9] d (fun g fr o wr => ∃ (j V : Nat) (a' : Option Addr) (c' : Nat), j ≤ d ∧ g = d - j ∧ fr = .int .i64 V ∧ o = .slice a' j c' ∧ Hid (nod l (far l 0 t0) v0 j = V) ∧ Hid (OwnI wr w1.heap.size (.slice a' j c') (wids l (far l 0 t0) v0 j) ∧ Below w1.heap.size w1 wr))
        case atStart => exact ⟨0, v0, _, 0, Nat.zero_le _, rfl, rfl, rfl, hid rfl, hid ⟨by simpa [wids] using OwnI.lit0 w1, by go_grown⟩⟩
        case round =>
          obtain ⟨j, V, a', c', hj, rfl, rfl, rfl, hV, hh⟩ := hrel
          obtain ⟨W1, hW1⟩ : ∃ W, W = wr := ⟨_, rfl⟩
          subst hW1
          have NK := hid (nod_ok (t := (t0 : Int)) (v0 := (v0 : Int)) HG.out (by omega) (by omega) j (by rw [HDF.out]; omega))
          have NE := hid (nod_end (t := (t0 : Int)) (v0 := (v0 : Int)) (j := j) HG.out (by omega) (by omega) (by rw [HDF.out]; omega))
          rw [hV.out, HDF.out] at NK NE
          have hVM : 1 ≤ V ∧ V ≤ M := by have := NK.out.1; omega
          clear dv0 n1
          have n1 := (hh.out.2.cell (p := ⟨w.heap.size, 1, none⟩) hz_w1_0).trans NN.out
          have hzW : w.heap.size < W1.heap.size := World.block_lt_of_cell? W1 _ n1
          by_cases hlt : j < d
          · have hne : ¬ V = t0 := fun e => by
              have := NE.out.1 (by rw [e])
              omega
            have hne2 : ((V : Int) != (t0 : Int)) = true := by simp; omega
            have KK := hid (kk_ok (t := (t0 : Int)) (v0 := (v0 : Int)) (j := j) HG.out (by omega) (by omega) (by rw [HDF.out]; omega))
            rw [hV.out] at KK
            go_wp2
            go_loopg [1, 9, 38] n (fun gm fr o i wr => ∃ k : Nat, k ≤ n ∧ gm = n - k ∧ i = .int .i64 k ∧ fr = .int .i64 V ∧ o = .slice a' j c' ∧ Hid (∀ i, i < k → stepB l (far l 0 t0) V i = false) ∧ Hid (Below W1.heap.size W1 wr))
            case atStart => exact ⟨0, Nat.zero_le _, rfl, rfl, rfl, rfl, hid (fun i hi => absurd hi (by omega)), hid (Below.refl _ _)⟩
            case round =>
              obtain ⟨k, hk, rfl, rfl, rfl, rfl, hm, hb⟩ := hrel
              by_cases hlt2 : k < n
              · obtain ⟨b0, off0, rfl, hbw, x0, x1, x2, x3⟩ := QAt.get (H.out.below (bstep (bstep HB3.out hh.out.2) hb.out)) k hlt2
                have hkl : k < l.length := by have := HLN.out; omega
                have HKL := hid hkl
                have HXX := hid (show ∀ x, oth (pp l k) V = x → 0 < x → 1 ≤ x ∧ x ≤ (M : Int) from fun x hx hx0 => (okQ_ends HG.out hkl hx hx0).2.1)
                have HX0 := hid (show ¬ 0 < oth (pp l k) V → oth (pp l k) V = 0 from fun h0 => by
                  have := goodNet_pipe HG.out hkl
                  unfold oth at h0 ⊢
                  split
                  · rename_i e; rw [if_pos e] at h0; omega
                  · rename_i e
                    rw [if_neg e] at h0
                    split
                    · rename_i e3; rw [if_pos e3] at h0; omega
                    · rfl)
                clear hkl
                go_wp2_with fail
                refine (i_other _ _ _ _ V _).mono ?_
                rintro e w5 ⟨rfl, hb5⟩
                have BX := hid (bstep hb.out (bstep (by go_grown) hb5) : Below W1.heap.size W1 w5)
                have pc := (hb5.cell (p := ⟨wr.heap.size, 0, none⟩) (by simp)).trans (cell_of_row _ _ 0 _ _ (0, 0) (heap_alloc_new _ _))
                simp only [List.getElem?_toArray, List.getElem?_cons_zero] at pc
                have hzp : wr.heap.size < w5.heap.size := World.block_lt_of_cell? w5 _ pc
                have BY := hid (bstep hh.out.2 BX.out)
                have HBR := hid (bstep (by go_grown) hb5 : Below wr.heap.size wr w5)
                clear hb5 x0 x1 x2 x3 hbw
                by_cases hx0 : 0 < oth (pp l k) V
                · obtain ⟨X, hX⟩ : ∃ X : Nat, oth (pp l k) V = X := ⟨(oth (pp l k) V).toNat, by omega⟩
                  have hXM : 1 ≤ X ∧ X ≤ M := by have := HXX.out _ hX (by omega); omega
                  have HOT := hid hX
                  have HOT2 := hid (show oth ((pp l k).1, (pp l k).2.1, (pp l k).2.2.1, (pp l k).2.2.2) V = X from hX)
                  rw [HOT2.out]
                  clear hX hx0
                  obtain ⟨fN, hfN⟩ : ∃ fN, far l 0 t0 X = fN := ⟨_, rfl⟩
                  obtain ⟨fV, hfV⟩ : ∃ fV, far l 0 t0 V = fV := ⟨_, rfl⟩
                  have DN := hid (show (distL M l 0 t0)[X]?.getD 0 = fN by rw [distL_at (by omega) (by omega)]; exact hfN)
                  have DV := hid (show (distL M l 0 t0)[V]?.getD 0 = fV by rw [distL_at (by omega) (by omega)]; exact hfV)
                  have hfV1 : fV = d - j := by have := NK.out.2; rw [hfV] at this; exact this
                  have hfVb : 0 ≤ fV ∧ fV ≤ 8 := by omega
                  have X0 : (0 : Int) ≤ (X : Int) := by omega
                  have X1 : (X : Int) < ((M + 1 : Nat) : Int) := by omega
                  have X2 : X < M + 1 := by omega
                  have X3 : (0 : Int) < (X : Int) := by omega
                  have V0 : (0 : Int) ≤ (V : Int) := by omega
                  have V1 : (V : Int) < ((M + 1 : Nat) : Int) := by omega
                  have V2 : V < M + 1 := by omega
                  have V3 : 0 < X := by omega
                  have hgw : g1 < w5.heap.size := by have := BY.out.size; omega
                  have cN := (BY.out.cell (p := ⟨g1, X, none⟩) hgs.2).trans (HO1.out.cell (k := X) X2)
                  have cV := (BY.out.cell (p := ⟨g1, V, none⟩) hgs.2).trans (HO1.out.cell (k := V) V2)
                  rw [DN.out] at cN
                  rw [DV.out] at cV
                  have HFN := hid hfN
                  have HFV := hid hfV
                  clear hfN hfV hfV1
                  by_cases hs : fN = fV - 1
                  · have SB := hid (stepB_yes (f := far l 0 t0) HOT.out X3 (by rw [HFN.out, HFV.out]; exact hs))
                    have E := hid (kk_hit hV.out HKL.out SB.out hm.out)
                    have hs1 : fN ≤ fV - 1 := by omega
                    have hs2 : fV - 1 ≤ fN := by omega
                    have hsb : (fN == fV - 1) = true := by simpa using hs
                    clear hs
                    go_upto_region 11 with fail
                    go_quiet (fail)
                    have BZ := hid (bstep BX.out (bdraws nq) : Below W1.heap.size W1 (w5.drewN nq))
                    have pz := ((bdraws nq : Below w5.heap.size w5 (w5.drewN nq)).cell (p := ⟨wr.heap.size, 0, none⟩) hzp).trans pc
                    clear pc cN cV
                    generalize w5.drewN nq = wq at *
                    have BV := hid (bstep hh.out.2 BZ.out)
                    have ho2 := hh.out.1.below BZ.out
                    go_wp2_with (at_builtin; refine wp_append_ints _ rfl _ _ rfl w1.heap.size _ (wids l (far l 0 t0) v0 j) rfl (ho2.alloc _) _ 1 1 [(pp l k).1] rfl (IntsAt.single _ _) (j + 1) (by simp [wids_len]) (by omega) (by have := BV.out.size; simp; omega) ?_)
                    intro a2 c2 w6 hown hgrow hblk
                    have S2 := hid (show OwnI w6 w1.heap.size (.slice a2 (j + 1) c2) (wids l (far l 0 t0) v0 (j + 1)) ∧ Below w1.heap.size w1 w6 from
                      ⟨by rw [wids_succ, E.out]; exact hown, (bstep BV.out (by go_grown)).grown hgrow (by have := BV.out.size; simp; omega) (fun q hq => (hh.out.1.lt q hq).1)⟩)
                    clear hown hgrow hblk ho2
                    go_wp2
                    go_roundg (d - (j + 1))
                    case rel => exact ⟨j + 1, X, _, _, by omega, rfl, rfl, rfl, hid (by rw [nod_succ, E.out, hV.out]; exact HOT.out), S2⟩
                    case measure => omega
                  · have SB := hid (stepB_no (f := far l 0 t0) HOT.out (fun e => hs (by have := e.2; rw [HFN.out, HFV.out] at this; exact this)))
                    have hsb : (fN == fV - 1) = false := by simpa using hs
                    go_upto_region 11 with fail
                    go_quiet (fail)
                    go_wp2
                    go_roundg (n - (k + 1))
                    case rel => exact ⟨k + 1, by omega, rfl, by go_num, rfl, rfl, hid (all_nextB hm.out SB.out), hid (bstep BX.out (bdraws _))⟩
                    case measure => omega
                · have hz0 := HX0.out (by omega)
                  have SB := hid (stepB_no (f := far l 0 t0) hz0 (by omega))
                  rw [show oth ((pp l k).1, (pp l k).2.1, (pp l k).2.2.1, (pp l k).2.2.2) (V : Int) = 0 from hz0]
                  clear hz0 hx0
                  go_upto_region 11 with fail
                  go_quiet (fail)
                  go_wp2
                  go_roundg (n - (k + 1))
                  case rel => exact ⟨k + 1, by omega, rfl, by go_num, rfl, rfl, hid (all_nextB hm.out SB.out), hid (bstep BX.out (bdraws _))⟩
                  case measure => omega
              · have := KK.out.1
                have h9 := hm.out (kk l (far l 0 t0) v0 j) (by have := HLN.out; omega)
                rw [KK.out.2.1] at h9
                cases h9
          · obtain rfl : j = d := by omega
            have hVt : V = t0 := by
              have := NE.out.2 rfl
              omega
            subst hVt
            go_wp2
            go_ret2
            exact ⟨_, _, rfl, hh.out.1.mono HB3.out.size, bstep HB3.out hh.out.2⟩

end Go.Proofs.Ythhogblnndmenaa
