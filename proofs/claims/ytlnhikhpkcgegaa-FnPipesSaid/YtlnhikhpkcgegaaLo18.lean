/-
  Texts of this claim, joined: WayI, AlongI, NetG, HeadQ, Lift, LiftG, LawG.
-/
import Derived.Test.YtlnhikhpkcgegaaRows
import Derived.ProofKit
import Derived.OpenShut
import Derived.Carry
import Derived.Lib.SmallJoins
import Derived.Test.YtlnhikhpkcgegaaLo1
import Derived.Test.YtlnhikhpkcgegaaLo10
import Derived.Test.YtlnhikhpkcgegaaLo12
import Derived.Test.YtlnhikhpkcgegaaLo13
import Derived.Test.YtlnhikhpkcgegaaLo14
import Derived.Test.YtlnhikhpkcgegaaLo15
import Derived.Test.YtlnhikhpkcgegaaLo16
import Derived.Test.YtlnhikhpkcgegaaLo17
/-
  The program's shortest way.
-/
set_option linter.unusedVariables false
set_option linter.unusedSimpArgs false
namespace Go.Proofs.Ytlnhikhpkcgegaa
open Go.RowKit

/-- What ShortestWay returns. -/
noncomputable def wayR (N : Int) (l : List Pip) (v t : Int) : List Int × Bool := if (goodNet N l && inR v 1 N) = true ∧ inR t 1 N = true ∧ 0 ≤ far l 0 t v then (wids l (far l 0 t) v (far l 0 t v).toNat, true) else ([], false)
theorem wayR_no {N : Int} {l : List Pip} {v t : Int} (h : (goodNet N l && inR v 1 N) = false ∨ inR t 1 N = false ∨ far l 0 t v < 0) : wayR N l v t = ([], false) := by
  unfold wayR
  rw [if_neg]
  rintro ⟨h1, h2, h3⟩
  rcases h with h | h | h
  · rw [h] at h1; cases h1
  · rw [h] at h2; cases h2
  · omega

set_option maxRecDepth 100000 in
set_option maxHeartbeats 8000000 in
theorem i_ShortestWay (N v t : Int) (a : Option Addr) (n c : Nat) (l : List Pip) (w : World) (h : QAt w a n l) (hn : n ≤ 1048576) (R : List Int) (b : Bool) (hR : wayR N l v t = (R, b)) :
    Calls Try.prog 106 #[.agg #[.int .i64 N, .slice a n c], .int .i64 v, .int .i64 t] w fun e w' => ∃ a' c', e = .returned (.tuple #[.slice a' R.length c', .bool b]) ∧ OwnI w' w.heap.size (.slice a' R.length c') R ∧ Below w.heap.size w w' := by
  have hl := h.1
  have H := hid h
  clear h
  cases h1 : goodNet N l && inR v 1 N
  · rw [wayR_no (.inl h1)] at hR
    cases hR
    have H1 := hid h1
    clear h1
    go_enter Try.func106, Try.ntmps106
    go_wp2_with fail
    refine (i_hasNode _ _ _ _ _ l _ (H.out.below (by go_grown)) hn).mono ?_
    rintro e w8 ⟨rfl, hb8⟩
    rw [H1.out]
    obtain ⟨hc_w8, hf_w8⟩ := bcell hb8
    have hz_w8_0 : w.heap.size < w8.heap.size := by have := hb8.size; simp only [World.size_alloc] at this; omega
    have HB8 := hid (bstep (by go_grown) hb8 : Below w.heap.size w w8)
    go_wp2
    go_ret2
    exact ⟨_, _, rfl, OwnI.nil _ _, HB8.out⟩
  · have H1 := hid h1
    cases h2 : inR t 1 N
    · rw [wayR_no (.inr (.inl h2))] at hR
      cases hR
      have H2 := hid h2
      clear h1 h2
      go_enter Try.func106, Try.ntmps106
      go_wp2_with fail
      refine (i_hasNode _ _ _ _ _ l _ (H.out.below (by go_grown)) hn).mono ?_
      rintro e w8 ⟨rfl, hb8⟩
      rw [H1.out]
      obtain ⟨hc_w8, hf_w8⟩ := bcell hb8
      have hz_w8_0 : w.heap.size < w8.heap.size := by have := hb8.size; simp only [World.size_alloc] at this; omega
      have HB8 := hid (bstep (by go_grown) hb8 : Below w.heap.size w w8)
      go_wp2_with fail
      refine (i_has _ _ _ _ _ _).mono ?_
      rintro e w9 ⟨rfl, hb9⟩
      rw [H2.out]
      obtain ⟨hc_w9, hf_w9⟩ := bcell hb9
      have hz_w9_0 : w.heap.size < w9.heap.size := by have := hb9.size; omega
      have HB9 := hid (bstep HB8.out hb9 : Below w.heap.size w w9)
      go_wp2
      go_ret2
      exact ⟨_, _, rfl, OwnI.nil _ _, HB9.out⟩
    · have H2 := hid h2
      obtain ⟨g1, g2⟩ := (Bool.and_eq_true _ _).mp h1
      have hN := (goodNet_get g1).1
      obtain ⟨M, rfl⟩ : ∃ M : Nat, N = M := ⟨N.toNat, by omega⟩
      have e1 := inR_iff.1 g2
      have e2 := inR_iff.1 h2
      obtain ⟨v0, rfl⟩ : ∃ v0 : Nat, v = v0 := ⟨v.toNat, by omega⟩
      obtain ⟨t0, rfl⟩ : ∃ t0 : Nat, t = t0 := ⟨t.toNat, by omega⟩
      have hv : 1 ≤ v0 ∧ v0 ≤ M := by omega
      have ht : 1 ≤ t0 ∧ t0 ≤ M := by omega
      have HG := hid g1
      have HLN := hid hl
      have hM : M ≤ 8 := by omega
      have hn10 : n ≤ 10 := by have := (goodNet_get g1).2.1; omega
      obtain ⟨fd, hfd⟩ : ∃ fd, far l 0 t0 v0 = fd := ⟨_, rfl⟩
      have HD := hid (show (distL M l 0 t0)[v0]?.getD 0 = fd by rw [distL_at (by omega) (by omega)]; exact hfd)
      have i0 : (0 : Int) ≤ (v0 : Int) := by omega
      have i1 : (v0 : Int) < ((M + 1 : Nat) : Int) := by omega
      have i2 : v0 < M + 1 := by omega
      by_cases hf : fd < 0
      · rw [wayR_no (.inr (.inr (by omega)))] at hR
        cases hR
        clear h1 h2 g1 g2 hN hfd
        go_enter Try.func106, Try.ntmps106
        go_wp2_with fail
        refine (i_hasNode _ _ _ _ _ l _ (H.out.below (by go_grown)) hn).mono ?_
        rintro e w8 ⟨rfl, hb8⟩
        rw [H1.out]
        obtain ⟨hc_w8, hf_w8⟩ := bcell hb8
        have hz_w8_0 : w.heap.size < w8.heap.size := by have := hb8.size; simp only [World.size_alloc] at this; omega
        have HB8 := hid (bstep (by go_grown) hb8 : Below w.heap.size w w8)
        go_wp2_with fail
        refine (i_has _ _ _ _ _ _).mono ?_
        rintro e w9 ⟨rfl, hb9⟩
        rw [H2.out]
        obtain ⟨hc_w9, hf_w9⟩ := bcell hb9
        have hz_w9_0 : w.heap.size < w9.heap.size := by have := hb9.size; omega
        have HB9 := hid (bstep HB8.out hb9 : Below w.heap.size w w9)
        go_wp2_with fail
        refine (i_distances M t0 0 _ _ _ l _ (H.out.below HB9.out) HG.out (by omega)).mono ?_
        rintro e w1 ⟨ad, c1, rfl, ho1, hb1⟩
        obtain ⟨g1, rfl, hg1, hgl⟩ := own_some ho1 (by omega)
        have HO1 := hid ho1
        have hgs : w9.heap.size ≤ g1 ∧ g1 < w1.heap.size := ⟨hg1, hgl⟩
        have n1 := ((hb1.cell (p := ⟨w.heap.size, 1, none⟩) hz_w9_0).trans (hb9.cell (p := ⟨w.heap.size, 1, none⟩) hz_w8_0)).trans ((hb8.cell (p := ⟨w.heap.size, 1, none⟩) (by simp)).trans (cell_of_row _ _ 1 _ _ (0, 0) (heap_alloc_new _ _)))
        simp only [List.getElem?_toArray, List.getElem?_cons_zero, List.getElem?_cons_succ] at n1
        have NN := hid n1
        have dv0 := ho1.cell (k := v0) i2
        rw [HD.out] at dv0
        have HB3 := hid (bstep HB9.out hb1 : Below w.heap.size w w1)
        have hz_w1_0 : w.heap.size < w1.heap.size := by have := hb1.size; omega
        clear ho1 hb1 hb8 hb9 hc_w8 hf_w8 hc_w9 hf_w9 hg1 hgl
        go_wp2
        go_ret2
        exact ⟨_, _, rfl, OwnI.nil _ _, bstep HB3.out (by go_grown)⟩
      · obtain ⟨d, hd⟩ : ∃ d : Nat, fd = d := ⟨fd.toNat, by omega⟩
        have hdM : d < M := by have := far_lt (wo := 0) (v := (v0 : Int)) g1 (show 1 ≤ (t0 : Int) ∧ (t0 : Int) ≤ M by omega) (by omega) (by omega); omega
        have e0 : wayR M l v0 t0 = (wids l (far l 0 t0) v0 d, true) := by
          unfold wayR
          rw [if_pos ⟨h1, h2, by omega⟩]
          have : (far l 0 t0 v0).toNat = d := by omega
          rw [this]
        rw [e0] at hR
        cases hR
        rw [wids_len]
        have HDF := hid (show far l 0 t0 v0 = d by omega)
        have hf0 : 0 ≤ fd := by omega
        clear h1 h2 g1 g2 hN hfd e0
        go_enter Try.func106, Try.ntmps106
        go_wp2_with fail
        refine (i_hasNode _ _ _ _ _ l _ (H.out.below (by go_grown)) hn).mono ?_
        rintro e w8 ⟨rfl, hb8⟩
        rw [H1.out]
        obtain ⟨hc_w8, hf_w8⟩ := bcell hb8
        have hz_w8_0 : w.heap.size < w8.heap.size := by have := hb8.size; simp only [World.size_alloc] at this; omega
        have HB8 := hid (bstep (by go_grown) hb8 : Below w.heap.size w w8)
        go_wp2_with fail
        refine (i_has _ _ _ _ _ _).mono ?_
        rintro e w9 ⟨rfl, hb9⟩
        rw [H2.out]
        obtain ⟨hc_w9, hf_w9⟩ := bcell hb9
        have hz_w9_0 : w.heap.size < w9.heap.size := by have := hb9.size; omega
        have HB9 := hid (bstep HB8.out hb9 : Below w.heap.size w w9)
        go_wp2_with fail
        refine (i_distances M t0 0 _ _ _ l _ (H.out.below HB9.out) HG.out (by omega)).mono ?_
        rintro e w1 ⟨ad, c1, rfl, ho1, hb1⟩
        obtain ⟨g1, rfl, hg1, hgl⟩ := own_some ho1 (by omega)
        have HO1 := hid ho1
        have hgs : w9.heap.size ≤ g1 ∧ g1 < w1.heap.size := ⟨hg1, hgl⟩
        have n1 := ((hb1.cell (p := ⟨w.heap.size, 1, none⟩) hz_w9_0).trans (hb9.cell (p := ⟨w.heap.size, 1, none⟩) hz_w8_0)).trans ((hb8.cell (p := ⟨w.heap.size, 1, none⟩) (by simp)).trans (cell_of_row _ _ 1 _ _ (0, 0) (heap_alloc_new _ _)))
        simp only [List.getElem?_toArray, List.getElem?_cons_zero, List.getElem?_cons_succ] at n1
        have NN := hid n1
        have dv0 := ho1.cell (k := v0) i2
        rw [HD.out] at dv0
        have HB3 := hid (bstep HB9.out hb1 : Below w.heap.size w w1)
        have hz_w1_0 : w.heap.size < w1.heap.size := by have := hb1.size; omega
        clear ho1 hb1 hb8 hb9 hc_w8 hf_w8 hc_w9 hf_w9 hg1 hgl
        go_wp2
        go_loopg [1, 9] d (fun g fr o wr => ∃ (j V : Nat) (a' : Option Addr) (c' : Nat), j ≤ d ∧ g = d - j ∧ fr = .int .i64 V ∧ o = .slice a' j c' ∧ Hid (nod l (far l 0 t0) v0 j = V) ∧ Hid (OwnI wr w1.heap.size (.slice a' j c') (wids l (far l 0 t0) v0 j) ∧ Below w1.heap.size w1 wr))
        case atStart => exact ⟨0, v0, _, 0, Nat.zero_le _, rfl, rfl, rfl, hid rfl, hid ⟨by simpa [wids] using OwnI.lit0 w1, by go_grown⟩⟩
        case round =>
          obtain ⟨j, V, a', c', hj, rfl, rfl, rfl, hV, hh⟩ := hrel
          obtain ⟨W1, hW1⟩ : ∃ W, W = wr := ⟨_, rfl⟩
          subst hW1
          have NK := hid (nod_ok (t := (t0 : Int)) (v0 := (v0 : Int)) HG.out (by omega) (by omega) j (by rw [HDF.out]; omega))
          have NE := hid (nod_end (t := (t0 : Int)) (v0 := (v0 : Int)) (j := j) HG.out (by omega) (by omega) (by rw [HDF.out]; omega))
          rw [hV.out, HDF.out] at NK NE
          have hVM : 1 ≤ V ∧ V ≤ M := by have := NK.out.1; omega
          clear dv0 n1
          have n1 := (hh.out.2.cell (p := ⟨w.heap.size, 1, none⟩) hz_w1_0).trans NN.out
          have hzW : w.heap.size < W1.heap.size := World.block_lt_of_cell? W1 _ n1
          by_cases hlt : j < d
          · have hne : ¬ V = t0 := fun e => by
              have := NE.out.1 (by rw [e])
              omega
            have hne2 : ((V : Int) != (t0 : Int)) = true := by simp; omega
            have KK := hid (kk_ok (t := (t0 : Int)) (v0 := (v0 : Int)) (j := j) HG.out (by omega) (by omega) (by rw [HDF.out]; omega))
            rw [hV.out] at KK
            go_wp2
            go_loopg [1, 9, 38] n (fun gm fr o i wr => ∃ k : Nat, k ≤ n ∧ gm = n - k ∧ i = .int .i64 k ∧ fr = .int .i64 V ∧ o = .slice a' j c' ∧ Hid (∀ i, i < k → stepB l (far l 0 t0) V i = false) ∧ Hid (Below W1.heap.size W1 wr))
            case atStart => exact ⟨0, Nat.zero_le _, rfl, rfl, rfl, rfl, hid (fun i hi => absurd hi (by omega)), hid (Below.refl _ _)⟩
            case round =>
              obtain ⟨k, hk, rfl, rfl, rfl, rfl, hm, hb⟩ := hrel
              by_cases hlt2 : k < n
              · obtain ⟨b0, off0, rfl, hbw, x0, x1, x2, x3⟩ := QAt.get (H.out.below (bstep (bstep HB3.out hh.out.2) hb.out)) k hlt2
                have hkl : k < l.length := by have := HLN.out; omega
                have HKL := hid hkl
                have HXX := hid (show ∀ x, oth (pp l k) V = x → 0 < x → 1 ≤ x ∧ x ≤ (M : Int) from fun x hx hx0 => (okQ_ends HG.out hkl hx hx0).2.1)
                have HX0 := hid (show ¬ 0 < oth (pp l k) V → oth (pp l k) V = 0 from fun h0 => by
                  have := goodNet_pipe HG.out hkl
                  unfold oth at h0 ⊢
                  split
                  · rename_i e; rw [if_pos e] at h0; omega
                  · rename_i e
                    rw [if_neg e] at h0
                    split
                    · rename_i e3; rw [if_pos e3] at h0; omega
                    · rfl)
                clear hkl
                go_wp2_with fail
                refine (i_other _ _ _ _ V _).mono ?_
                rintro e w5 ⟨rfl, hb5⟩
                have BX := hid (bstep hb.out (bstep (by go_grown) hb5) : Below W1.heap.size W1 w5)
                have pc := (hb5.cell (p := ⟨wr.heap.size, 0, none⟩) (by simp)).trans (cell_of_row _ _ 0 _ _ (0, 0) (heap_alloc_new _ _))
                simp only [List.getElem?_toArray, List.getElem?_cons_zero] at pc
                have hzp : wr.heap.size < w5.heap.size := World.block_lt_of_cell? w5 _ pc
                have BY := hid (bstep hh.out.2 BX.out)
                have HBR := hid (bstep (by go_grown) hb5 : Below wr.heap.size wr w5)
                clear hb5 x0 x1 x2 x3 hbw
                by_cases hx0 : 0 < oth (pp l k) V
                · obtain ⟨X, hX⟩ : ∃ X : Nat, oth (pp l k) V = X := ⟨(oth (pp l k) V).toNat, by omega⟩
                  have hXM : 1 ≤ X ∧ X ≤ M := by have := HXX.out _ hX (by omega); omega
                  have HOT := hid hX
                  have HOT2 := hid (show oth ((pp l k).1, (pp l k).2.1, (pp l k).2.2.1, (pp l k).2.2.2) V = X from hX)
                  rw [HOT2.out]
                  clear hX hx0
                  obtain ⟨fN, hfN⟩ : ∃ fN, far l 0 t0 X = fN := ⟨_, rfl⟩
                  obtain ⟨fV, hfV⟩ : ∃ fV, far l 0 t0 V = fV := ⟨_, rfl⟩
                  have DN := hid (show (distL M l 0 t0)[X]?.getD 0 = fN by rw [distL_at (by omega) (by omega)]; exact hfN)
                  have DV := hid (show (distL M l 0 t0)[V]?.getD 0 = fV by rw [distL_at (by omega) (by omega)]; exact hfV)
                  have hfV1 : fV = d - j := by have := NK.out.2; rw [hfV] at this; exact this
                  have hfVb : 0 ≤ fV ∧ fV ≤ 8 := by omega
                  have X0 : (0 : Int) ≤ (X : Int) := by omega
                  have X1 : (X : Int) < ((M + 1 : Nat) : Int) := by omega
                  have X2 : X < M + 1 := by omega
                  have X3 : (0 : Int) < (X : Int) := by omega
                  have V0 : (0 : Int) ≤ (V : Int) := by omega
                  have V1 : (V : Int) < ((M + 1 : Nat) : Int) := by omega
                  have V2 : V < M + 1 := by omega
                  have V3 : 0 < X := by omega
                  have hgw : g1 < w5.heap.size := by have := BY.out.size; omega
                  have cN := (BY.out.cell (p := ⟨g1, X, none⟩) hgs.2).trans (HO1.out.cell (k := X) X2)
                  have cV := (BY.out.cell (p := ⟨g1, V, none⟩) hgs.2).trans (HO1.out.cell (k := V) V2)
                  rw [DN.out] at cN
                  rw [DV.out] at cV
                  have HFN := hid hfN
                  have HFV := hid hfV
                  clear hfN hfV hfV1
                  by_cases hs : fN = fV - 1
                  · have SB := hid (stepB_yes (f := far l 0 t0) HOT.out X3 (by rw [HFN.out, HFV.out]; exact hs))
                    have E := hid (kk_hit hV.out HKL.out SB.out hm.out)
                    have hs1 : fN ≤ fV - 1 := by omega
                    have hs2 : fV - 1 ≤ fN := by omega
                    have hsb : (fN == fV - 1) = true := by simpa using hs
                    clear hs
                    go_upto_region 11 with fail
                    go_quiet (fail)
                    have BZ := hid (bstep BX.out (bdraws nq) : Below W1.heap.size W1 (w5.drewN nq))
                    have pz := ((bdraws nq : Below w5.heap.size w5 (w5.drewN nq)).cell (p := ⟨wr.heap.size, 0, none⟩) hzp).trans pc
                    clear pc cN cV
                    generalize w5.drewN nq = wq at *
                    have BV := hid (bstep hh.out.2 BZ.out)
                    have ho2 := hh.out.1.below BZ.out
                    go_wp2_with (at_builtin; refine wp_append_ints _ rfl _ _ rfl w1.heap.size _ (wids l (far l 0 t0) v0 j) rfl (ho2.alloc _) _ 1 1 [(pp l k).1] rfl (IntsAt.single _ _) (j + 1) (by simp [wids_len]) (by omega) (by have := BV.out.size; simp; omega) ?_)
                    intro a2 c2 w6 hown hgrow hblk
                    have S2 := hid (show OwnI w6 w1.heap.size (.slice a2 (j + 1) c2) (wids l (far l 0 t0) v0 (j + 1)) ∧ Below w1.heap.size w1 w6 from
                      ⟨by rw [wids_succ, E.out]; exact hown, (bstep BV.out (by go_grown)).grown hgrow (by have := BV.out.size; simp; omega) (fun q hq => (hh.out.1.lt q hq).1)⟩)
                    clear hown hgrow hblk ho2
                    go_wp2
                    go_roundg (d - (j + 1))
                    case rel => exact ⟨j + 1, X, _, _, by omega, rfl, rfl, rfl, hid (by rw [nod_succ, E.out, hV.out]; exact HOT.out), S2⟩
                    case measure => omega
                  · have SB := hid (stepB_no (f := far l 0 t0) HOT.out (fun e => hs (by have := e.2; rw [HFN.out, HFV.out] at this; exact this)))
                    have hsb : (fN == fV - 1) = false := by simpa using hs
                    go_upto_region 11 with fail
                    go_quiet (fail)
                    go_wp2
                    go_roundg (n - (k + 1))
                    case rel => exact ⟨k + 1, by omega, rfl, by go_num, rfl, rfl, hid (all_nextB hm.out SB.out), hid (bstep BX.out (bdraws _))⟩
                    case measure => omega
                · have hz0 := HX0.out (by omega)
                  have SB := hid (stepB_no (f := far l 0 t0) hz0 (by omega))
                  rw [show oth ((pp l k).1, (pp l k).2.1, (pp l k).2.2.1, (pp l k).2.2.2) (V : Int) = 0 from hz0]
                  clear hz0 hx0
                  go_upto_region 11 with fail
                  go_quiet (fail)
                  go_wp2
                  go_roundg (n - (k + 1))
                  case rel => exact ⟨k + 1, by omega, rfl, by go_num, rfl, rfl, hid (all_nextB hm.out SB.out), hid (bstep BX.out (bdraws _))⟩
                  case measure => omega
              · have := KK.out.1
                have h9 := hm.out (kk l (far l 0 t0) v0 j) (by have := HLN.out; omega)
                rw [KK.out.2.1] at h9
                cases h9
          · obtain rfl : j = d := by omega
            have hVt : V = t0 := by
              have := NE.out.2 rfl
              omega
            subst hVt
            go_wp2
            go_ret2
            exact ⟨_, _, rfl, hh.out.1.mono HB3.out.size, bstep HB3.out hh.out.2⟩

end Go.Proofs.Ytlnhikhpkcgegaa

/-
  LossAlong, in the program.
-/
set_option linter.unusedVariables false
set_option linter.unusedSimpArgs false
namespace Go.Proofs.Ytlnhikhpkcgegaa
open Go.RowKit

/-- What LossAlong returns. -/
noncomputable def alongR (N : Int) (l : List Pip) (fs : List Int) (v t : Int) : Int × Bool := if (goodNet N l && inR v 1 N) = true ∧ inR t 1 N = true ∧ goodFl l.length fs = true ∧ 0 ≤ far l 0 t v then (lsum l fs (far l 0 t) v (far l 0 t v).toNat, true) else (0, false)
theorem alongR_no {N : Int} {l : List Pip} {fs : List Int} {v t : Int} (h : (goodNet N l && inR v 1 N) = false ∨ inR t 1 N = false ∨ goodFl l.length fs = false ∨ far l 0 t v < 0) : alongR N l fs v t = (0, false) := by
  unfold alongR
  rw [if_neg]
  rintro ⟨h1, h2, h3, h4⟩
  rcases h with h | h | h | h
  · rw [h] at h1; cases h1
  · rw [h] at h2; cases h2
  · rw [h] at h3; cases h3
  · omega

set_option maxRecDepth 100000 in
set_option maxHeartbeats 8000000 in
theorem i_LossAlong (N v t : Int) (a p : Option Addr) (n c m e0 : Nat) (l : List Pip) (fs : List Int) (w : World) (h : QAt w a n l) (h' : IntsAt w p m fs) (hn : n ≤ 1048576) (hm : m ≤ 1048576) (x : Int) (b : Bool) (hR : alongR N l fs v t = (x, b)) :
    Calls Try.prog 35 #[.agg #[.int .i64 N, .slice a n c], .slice p m e0, .int .i64 v, .int .i64 t] w fun e w' => e = .returned (.tuple #[.int .i64 x, .bool b]) ∧ Below w.heap.size w w' := by
  have hl := h.1
  have hl' := h'.1
  have H := hid h
  have H' := hid h'
  clear h h'
  by_cases h1 : (goodNet N l && inR v 1 N) = false ∨ inR t 1 N = false ∨ far l 0 t v < 0
  · have e0 : alongR N l fs v t = (0, false) := alongR_no (by
      rcases h1 with h | h | h
      · exact .inl h
      · exact .inr (.inl h)
      · exact .inr (.inr (.inr h)))
    rw [e0] at hR
    cases hR
    have HW := hid (wayR_no h1)
    clear h1 e0
    go_enter Try.func35, Try.ntmps35
    go_wp2_with fail
    refine (i_ShortestWay N v t _ _ _ l _ (H.out.below (by go_grown)) hn _ _ HW.out).mono ?_
    rintro e w1 ⟨a1, c1, rfl, ho1, hb1⟩
    have HB1 := hid (bstep (by go_grown) hb1 : Below w.heap.size w w1)
    clear ho1 hb1
    go_wp2
    go_ret2
    exact ⟨rfl, HB1.out⟩
  · simp only [not_or, Bool.not_eq_false, Int.not_lt] at h1
    obtain ⟨g0, g1, g2⟩ := h1
    obtain ⟨k1, k2⟩ := (Bool.and_eq_true _ _).mp g0
    have hN := (goodNet_get k1).1
    obtain ⟨M, rfl⟩ : ∃ M : Nat, N = M := ⟨N.toNat, by omega⟩
    have e1 := inR_iff.1 k2
    have e2 := inR_iff.1 g1
    obtain ⟨v0, rfl⟩ : ∃ v0 : Nat, v = v0 := ⟨v.toNat, by omega⟩
    obtain ⟨t0, rfl⟩ : ∃ t0 : Nat, t = t0 := ⟨t.toNat, by omega⟩
    obtain ⟨d, hd⟩ : ∃ d : Nat, far l 0 t0 v0 = d := ⟨(far l 0 t0 v0).toNat, by omega⟩
    have HW := hid (show wayR M l v0 t0 = (wids l (far l 0 t0) v0 d, true) by
      unfold wayR
      rw [if_pos ⟨g0, g1, g2⟩, hd]
      rfl)
    have HLN := hid hl
    have hM : M ≤ 8 := by omega
    have hn10 : n ≤ 10 := by have := (goodNet_get k1).2.1; omega
    cases h2 : goodFl l.length fs
    · rw [alongR_no (.inr (.inr (.inl h2)))] at hR
      cases hR
      have H2 := hid (show goodFl n fs = false by rw [← hl]; exact h2)
      clear h2 g0 g1 g2 k1 k2 hN hd
      go_enter Try.func35, Try.ntmps35
      go_wp2_with fail
      refine (i_ShortestWay _ _ _ _ _ _ l _ (H.out.below (by go_grown)) hn _ _ HW.out).mono ?_
      rintro e w1 ⟨a1, c1, rfl, ho1, hb1⟩
      rw [wids_len] at ho1
      rw [wids_len]
      have HB1 := hid (bstep (by go_grown) hb1 : Below w.heap.size w w1)
      have HO1 := hid ho1
      have n0 := (hb1.cell (p := ⟨w.heap.size, 0, none⟩) (by simp)).trans (cell_of_row _ _ 0 _ _ (0, 0) (heap_alloc_new _ _))
      have n1 := (hb1.cell (p := ⟨w.heap.size, 1, none⟩) (by simp)).trans (cell_of_row _ _ 1 _ _ (0, 0) (heap_alloc_new _ _))
      simp only [List.getElem?_toArray, List.getElem?_cons_zero, List.getElem?_cons_succ] at n0 n1
      have M0 := hid n0
      have M1 := hid n1
      have hz_w1_0 : w.heap.size < w1.heap.size := World.block_lt_of_cell? w1 _ n0
      clear ho1 hb1
      go_wp2_with fail
      refine (i_areFlows _ _ _ n _ _ _ fs _ (H'.out.below HB1.out) hm).mono ?_
      rintro e w2 ⟨rfl, hb2⟩
      rw [H2.out]
      go_wp2
      go_ret2
      exact ⟨rfl, bstep HB1.out hb2⟩
    · have e0 : alongR M l fs v0 t0 = (lsum l fs (far l 0 t0) v0 d, true) := by
        unfold alongR
        rw [if_pos ⟨g0, g1, h2, g2⟩, hd]
        rfl
      rw [e0] at hR
      cases hR
      have hmn : m = n := by have := (goodFl_iff.1 h2).1; omega
      subst hmn
      have hdM : d < M := by have := far_lt (wo := 0) (v := (v0 : Int)) k1 (show 1 ≤ (t0 : Int) ∧ (t0 : Int) ≤ M by omega) (by omega) (by omega); omega
      have hv : 1 ≤ v0 ∧ v0 ≤ M := by omega
      have ht : 1 ≤ t0 ∧ t0 ≤ M := by omega
      have H2 := hid (show goodFl m fs = true by rw [← hl]; exact h2)
      have HF := hid h2
      have HG := hid k1
      have HDF := hid hd
      clear h2 g0 g1 g2 k1 k2 hN hd e0
      go_enter Try.func35, Try.ntmps35
      go_wp2_with fail
      refine (i_ShortestWay _ _ _ _ _ _ l _ (H.out.below (by go_grown)) hn _ _ HW.out).mono ?_
      rintro e w1 ⟨a1, c1, rfl, ho1, hb1⟩
      rw [wids_len] at ho1
      rw [wids_len]
      have HB1 := hid (bstep (by go_grown) hb1 : Below w.heap.size w w1)
      have HO1 := hid ho1
      have n0 := (hb1.cell (p := ⟨w.heap.size, 0, none⟩) (by simp)).trans (cell_of_row _ _ 0 _ _ (0, 0) (heap_alloc_new _ _))
      have n1 := (hb1.cell (p := ⟨w.heap.size, 1, none⟩) (by simp)).trans (cell_of_row _ _ 1 _ _ (0, 0) (heap_alloc_new _ _))
      simp only [List.getElem?_toArray, List.getElem?_cons_zero, List.getElem?_cons_succ] at n0 n1
      have M0 := hid n0
      have M1 := hid n1
      have hz_w1_0 : w.heap.size < w1.heap.size := World.block_lt_of_cell? w1 _ n0
      clear ho1 hb1
      go_wp2_with fail
      refine (i_areFlows _ _ _ m _ _ _ fs _ (H'.out.below HB1.out) hm).mono ?_
      rintro e w2 ⟨rfl, hb2⟩
      rw [H2.out]
      have n0 := (hb2.cell (p := ⟨w.heap.size, 0, none⟩) hz_w1_0).trans M0.out
      have n1 := (hb2.cell (p := ⟨w.heap.size, 1, none⟩) hz_w1_0).trans M1.out
      have HB2 := hid (bstep HB1.out hb2)
      have HW2 := hid (HO1.out.below hb2)
      have hz2 : w.heap.size < w2.heap.size := World.block_lt_of_cell? w2 _ n0
      have K0 := hid n0
      have K1 := hid n1
      clear hb2
      go_wp2
      go_loopg [2, 12, 34] d (fun g fr sm i wr => ∃ j V : Nat, j ≤ d ∧ g = d - j ∧ fr = .int .i64 V ∧ sm = .int .i64 (lsum l fs (far l 0 t0) v0 j) ∧ i = .int .i64 j ∧ Hid (nod l (far l 0 t0) v0 j = V) ∧ Hid (Below w2.heap.size w2 wr))
      case atStart => exact ⟨0, v0, Nat.zero_le _, rfl, rfl, by simp [lsum], rfl, hid rfl, hid (by go_grown)⟩
      case round =>
        obtain ⟨j, V, hj, rfl, rfl, rfl, rfl, hV, hh⟩ := hrel
        have NK := hid (nod_ok (t := (t0 : Int)) (v0 := (v0 : Int)) HG.out (by omega) (by omega) j (by rw [HDF.out]; omega))
        rw [hV.out, HDF.out] at NK
        have hVM : 1 ≤ V ∧ V ≤ M := by have := NK.out.1; omega
        clear n0 n1
        have n0 := (hh.out.cell (p := ⟨w.heap.size, 0, none⟩) hz2).trans K0.out
        have n1 := (hh.out.cell (p := ⟨w.heap.size, 1, none⟩) hz2).trans K1.out
        have hz0 : w.heap.size < wr.heap.size := World.block_lt_of_cell? wr _ n0
        by_cases hlt : j < d
        · have KK := hid (kk_ok (t := (t0 : Int)) (v0 := (v0 : Int)) (j := j) HG.out (by omega) (by omega) (by rw [HDF.out]; omega))
          rw [hV.out] at KK
          obtain ⟨K, hK⟩ : ∃ K, kk l (far l 0 t0) v0 j = K := ⟨_, rfl⟩
          rw [hK] at KK
          have hKn : K < m := by have := KK.out.1; have := HLN.out; omega
          obtain ⟨bw, ow, rfl, hbw1, hwc⟩ := HW2.out.at.2 j hlt
          have hcw := (hh.out.cell (p := ⟨bw, ow + j, none⟩) hbw1).trans hwc
          rw [wids_get l _ _ hlt, hK] at hcw
          have HP := hid (goodNet_pipe HG.out KK.out.1)
          obtain ⟨F, hF⟩ : ∃ F : Nat, (pp l K).2.1 = F := ⟨(pp l K).2.1.toNat, by have := HP.out.2.1; omega⟩
          obtain ⟨T, hT⟩ : ∃ T : Nat, (pp l K).2.2.1 = T := ⟨(pp l K).2.2.1.toNat, by have := HP.out.2.2.1; omega⟩
          have HFQ := hid (findQ_at HG.out KK.out.1)
          have hpos := (stepB_iff.1 KK.out.2.1).1
          obtain ⟨X, hX⟩ : ∃ X : Nat, oth (pp l K) V = X := ⟨(oth (pp l K) V).toNat, by omega⟩
          have HFF := hid hF
          have HTT := hid hT
          have lf := lsum_fit (t := (t0 : Int)) (v0 := (v0 : Int)) HG.out HF.out (by omega) (by omega) j (by rw [HDF.out]; omega)
          have lg := sgl_fit (v := (V : Int)) HG.out HF.out KK.out.1
          have HS := hid (lsum_succ l fs (far l 0 t0) v0 j)
          rw [hK, hV.out] at HS
          have HNS := hid (show nod l (far l 0 t0) v0 (j + 1) = X from by rw [nod_succ, hK, hV.out]; exact hX)
          have HX2 := hid (show oth ((pp l K).1, (F : Int), (pp l K).2.2.1, (pp l K).2.2.2) V = X from by rw [← hF]; exact hX)
          clear hK hbw1 hwc hpos hX hF hT
          go_wp2_with fail
          refine (i_pipeIndex _ _ _ _ _ l _ (H.out.below (bstep HB2.out hh.out)) hn).mono ?_
          rintro e w3 ⟨rfl, hb3⟩
          rw [HFQ.out]
          have HB3 := hid (bstep hh.out hb3)
          have n0 := (hb3.cell (p := ⟨w.heap.size, 0, none⟩) hz0).trans n0
          have n1 := (hb3.cell (p := ⟨w.heap.size, 1, none⟩) hz0).trans n1
          have hz3 : w.heap.size < w3.heap.size := World.block_lt_of_cell? w3 _ n0
          clear hb3 hcw
          go_wp2_with fail
          refine (i_lossOf _ _ _ _ _ _ K l fs _ (H.out.below (bstep HB2.out HB3.out)) (H'.out.below (bstep HB2.out HB3.out)) HG.out H2.out hKn).mono ?_
          rintro e w4 ⟨rfl, hb4⟩
          have HB4 := hid (bstep HB3.out hb4)
          have n1 := (hb4.cell (p := ⟨w.heap.size, 1, none⟩) hz3).trans n1
          have hz4 : w.heap.size < w4.heap.size := World.block_lt_of_cell? w4 _ n1
          clear hb4
          obtain ⟨b0, off0, rfl, hbw, x0, x1, x2, x3⟩ := QAt.get (H.out.below (bstep HB2.out HB4.out)) K hKn
          rw [HFF.out] at x1
          by_cases eF : F = V
          · subst eF
            have HSG := hid (sgl_from (fs := fs) (v := (F : Int)) HFF.out.symm)
            rw [HSG.out] at lg
            go_wp2_with fail
            refine (i_other _ _ _ _ _ _).mono ?_
            rintro e w5 ⟨rfl, hb5⟩
            rw [HX2.out]
            have HB5 := hid (bstep HB4.out hb5)
            clear hb5
            go_wp2
            go_roundg (d - (j + 1))
            case rel => exact ⟨j + 1, X, by omega, rfl, rfl, (by rw [HS.out, HSG.out]), by go_num, HNS, HB5⟩
            case measure => omega
          · have hFV : ((F : Int) != (V : Int)) = true := by simp; omega
            have HSG := hid (sgl_to (fs := fs) (v := (V : Int)) (k := K) (by rw [HFF.out]; omega))
            rw [HSG.out] at lg
            go_wp2_with fail
            refine (i_other _ _ _ _ _ _).mono ?_
            rintro e w5 ⟨rfl, hb5⟩
            rw [HX2.out]
            have HB5 := hid (bstep HB4.out hb5)
            clear hb5
            go_wp2
            go_roundg (d - (j + 1))
            case rel => exact ⟨j + 1, X, by omega, rfl, rfl, (by rw [HS.out, HSG.out]), by go_num, HNS, HB5⟩
            case measure => omega
        · obtain rfl : j = d := by omega
          go_wp2
          go_ret2
          exact ⟨rfl, bstep HB2.out hh.out⟩

end Go.Proofs.Ytlnhikhpkcgegaa

/-
  Networks: the pipe with the greatest number.
-/
set_option linter.unusedVariables false
set_option linter.unusedSimpArgs false
namespace Go.Proofs.Ytlnhikhpkcgegaa
open Go.RowKit

/-- The Id of the pipe with the greatest number among the first ones, and the number. -/
def gp (l : List Pip) (g : Nat → Int) : Nat → Int × Int
  | 0 => (0, -1)
  | k + 1 => if (gp l g k).2 < g k then ((pp l k).1, g k) else gp l g k
theorem gp_yes {l : List Pip} {g : Nat → Int} {k : Nat} (h : (gp l g k).2 < g k) : gp l g (k + 1) = ((pp l k).1, g k) := by simp [gp, h]
theorem gp_no {l : List Pip} {g : Nat → Int} {k : Nat} (h : ¬ (gp l g k).2 < g k) : gp l g (k + 1) = gp l g k := by simp [gp, h]
/-- The index of the greatest number among the first ones. -/
def bi (g : Nat → Int) : Nat → Nat
  | 0 => 0
  | k + 1 => if g (bi g k) < g k then k else bi g k
theorem bi_lt (g : Nat → Int) : ∀ k, 1 ≤ k → bi g k < k
  | 0, h => by omega
  | k + 1, _ => by
    unfold bi
    split
    · omega
    · by_cases h0 : k = 0
      · subst h0; simp [bi]
      · have := bi_lt g k (by omega); omega
theorem gp_bi (l : List Pip) (g : Nat → Int) (h0 : ∀ k, 0 ≤ g k) : ∀ k, 1 ≤ k → gp l g k = ((pp l (bi g k)).1, g (bi g k))
  | 0, h => by omega
  | k + 1, _ => by
    by_cases hk : k = 0
    · subst hk
      have := h0 0
      rw [gp_yes (by simp only [gp]; omega)]
      simp [bi]
    · have ih := gp_bi l g h0 k (by omega)
      by_cases hlt : g (bi g k) < g k
      · rw [gp_yes (by rw [ih]; exact hlt)]
        simp [bi, hlt]
      · rw [gp_no (by rw [ih]; exact hlt), ih]
        simp [bi, hlt]

set_option maxHeartbeats 2000000 in
theorem i_greatestPipe (F : Nat) (cs : Array Value) (v : Nat → Int) (hF : enters F) (N : Int) (a : Option Addr) (n c : Nat) (l : List Pip) (w : World) (h : QAt w a n l) (hn : n ≤ 1048576) (hv : ∀ k, k < n → -1152921504606846976 ≤ v k ∧ v k ≤ 1152921504606846976)
    (HH : ∀ (k : Nat) w', k < n → Below w.heap.size w w' → Calls Try.prog F (#[.int .i64 k] ++ cs) w' fun e w'' => e = .returned (.int .i64 (v k)) ∧ Below w'.heap.size w' w'') :
    Calls Try.prog 97 #[.agg #[.int .i64 N, .slice a n c], .func (.func F) #[] cs] w fun e w' => e = .returned (.tuple #[.int .i64 (gp l (fun k => max (v k) (-(v k))) n).1, .int .i64 (gp l (fun k => max (v k) (-(v k))) n).2]) ∧ Below w.heap.size w w' := by
  unfold enters at hF
  have H := hid h
  have HC := hid HH
  have HV := hid hv
  clear h HH hv
  go_enter Try.func97, Try.ntmps97
  go_wp2
  go_loopg [6, 7, 14] n (fun g t6 t7 i wr => ∃ k : Nat, k ≤ n ∧ g = n - k ∧ i = .int .i64 k ∧ t6 = .int .i64 (gp l (fun k => max (v k) (-(v k))) k).1 ∧ t7 = .int .i64 (gp l (fun k => max (v k) (-(v k))) k).2 ∧ Hid (Below w.heap.size w wr))
  case atStart => exact ⟨0, Nat.zero_le _, rfl, rfl, rfl, rfl, hid (by go_grown)⟩
  case round =>
    obtain ⟨k, hk, rfl, rfl, rfl, rfl, hB⟩ := hrel
    by_cases hlt : k < n
    · obtain ⟨b0, off0, rfl, hbw, x0, x1, x2, x3⟩ := QAt.get (H.out.below hB.out) k hlt
      have hvk := HV.out k hlt
      have hfun := hid (fun w' hb => HC.out k w' hlt hb)
      go_wp2_with fail
      refine (hfun.out _ (bstep hB.out (by go_grown))).mono ?_
      rintro e w1 ⟨rfl, hb1⟩
      have n0 : w1.cell? ⟨wr.heap.size, 0, none⟩ = some (.int .i64 (pp l k).1) := by rw [(bcell hb1).1 _ _ (by simp)]; exact cell_of_row _ _ 0 _ _ (0, 0) (heap_alloc_new _ _)
      have hz1 : wr.heap.size < w1.heap.size := World.block_lt_of_cell? w1 _ n0
      have HB1 := hid (bstep hB.out (bstep (by go_grown) hb1) : Below w.heap.size w w1)
      clear hb1 x0 x1 x2 x3
      go_wp2_with fail
      refine (i_absOf _ _ (by omega)).mono ?_
      rintro e _ ⟨rfl, rfl⟩
      by_cases hgt : (gp l (fun k => max (v k) (-(v k))) k).2 < max (v k) (-(v k))
      · have E := hid (gp_yes (l := l) (g := fun k => max (v k) (-(v k))) hgt)
        go_wp2
        go_roundg (n - (k + 1))
        case rel => exact ⟨k + 1, by omega, rfl, by go_num, by rw [E.out], by rw [E.out], HB1⟩
        case measure => omega
      · have E := hid (gp_no (l := l) (g := fun k => max (v k) (-(v k))) hgt)
        go_wp2
        go_roundg (n - (k + 1))
        case rel => exact ⟨k + 1, by omega, rfl, by go_num, by rw [E.out], by rw [E.out], HB1⟩
        case measure => omega
    · obtain rfl : k = n := by omega
      go_wp2
      go_ret2
      exact ⟨rfl, hB.out⟩

theorem enters_HeaviestPipe : enters 98 := by intro args w; kernel_rfl
theorem i_HeaviestPipe1 (b : Option Addr) (n d g k : Nat) (fs : List Int) (w : World) (h' : IntsAt w b n fs) (hk : k < n) (h0 : w.cell? ⟨g, 0, none⟩ = some (.slice b n d)) :
    Calls Try.prog 98 #[.int .i64 k, .pointer (some ⟨g, 0, none⟩)] w fun e w' => e = .returned (.int .i64 (fs[k]?.getD 0)) ∧ Below w.heap.size w w' := by
  obtain ⟨b1, off1, rfl, hbw1, hcell⟩ := h'.2 k hk
  have hg := World.block_lt_of_cell? w _ h0
  go_enter Try.func98, Try.ntmps98
  go_wp2
  go_ret
  exact ⟨rfl, by go_grown⟩

theorem enters_SteepestPipe : enters 125 := by intro args w; kernel_rfl
theorem i_SteepestPipe1 (N : Int) (a b : Option Addr) (n c d g g2 k : Nat) (l : List Pip) (fs : List Int) (w : World) (h : QAt w a n l) (h' : IntsAt w b n fs) (hg : goodNet N l = true) (hf : goodFl n fs = true) (hk : k < n)
    (h0 : w.cell? ⟨g, 0, none⟩ = some (.int .i64 N)) (h1 : w.cell? ⟨g, 1, none⟩ = some (.slice a n c)) (h2 : w.cell? ⟨g2, 0, none⟩ = some (.slice b n d)) :
    Calls Try.prog 125 #[.int .i64 k, .pointer (some ⟨g, 0, none⟩), .pointer (some ⟨g2, 0, none⟩)] w fun e w' => e = .returned (.int .i64 (loss l fs k)) ∧ Below w.heap.size w w' := by
  have H := hid h
  have H' := hid h'
  have HG := hid hg
  have HF := hid hf
  have z1 := World.block_lt_of_cell? w _ h0
  have z2 := World.block_lt_of_cell? w _ h2
  clear h h' hg hf
  go_enter Try.func125, Try.ntmps125
  go_wp2_with fail
  refine (i_lossOf N _ _ _ _ _ k l fs _ (H.out.below (by go_grown)) (H'.out.below (by go_grown)) HG.out HF.out hk).mono ?_
  rintro e w1 ⟨rfl, hb1⟩
  go_wp2
  go_ret
  exact ⟨rfl, hb1⟩

theorem last_newG (W : World) (x : Obj) (g : Nat) (hg : g = W.heap.size) : (W.alloc x).heap[g]? = some x := by
  subst hg
  exact heap_alloc_new _ _

/-- What HeaviestPipe and SteepestPipe return. -/
def heavyR (N : Int) (l : List Pip) (fs : List Int) : Int × Int × Bool := if goodNet N l = true ∧ goodFl l.length fs = true ∧ l ≠ [] then ((gp l (fun k => max (fs[k]?.getD 0) (-(fs[k]?.getD 0))) l.length).1, (gp l (fun k => max (fs[k]?.getD 0) (-(fs[k]?.getD 0))) l.length).2, true) else (0, 0, false)
def steepR (N : Int) (l : List Pip) (fs : List Int) : Int × Int × Bool := if goodNet N l = true ∧ goodFl l.length fs = true ∧ l ≠ [] then ((gp l (fun k => max (loss l fs k) (-(loss l fs k))) l.length).1, (gp l (fun k => max (loss l fs k) (-(loss l fs k))) l.length).2, true) else (0, 0, false)

end Go.Proofs.Ytlnhikhpkcgegaa

/-
  What the answers on heads, losses, pressures and needs say of one another (plain).
-/
set_option linter.unusedVariables false
set_option linter.unusedSimpArgs false
namespace Go.Proofs.Ytlnhikhpkcgegaa
open Go.RowKit

theorem head_step {M : Nat} {l : List Pip} {s : Int} {fs out : List Int} {head : Int} {st i : Nat} (hg : goodNet M l = true) (ht : treeB M l = true) (hs : 1 ≤ s ∧ s ≤ M) (hi : i < l.length) (h : HeadP M l s fs head st i out) : ∃ out', HeadP M l s fs head st (i + 1) out' := by
  obtain ⟨-, p1, p2, hne, -⟩ := goodNet_pipe hg hi
  have hlen := h.len
  by_cases c1 : far l 0 s (pp l i).2.1 = st ∧ far l 0 s (pp l i).2.2.1 = st + 1
  · have hb : BackK l 0 s (pp l i).2.2.1 i := by
      rcases tree_lev hg ht hs hi with ⟨-, b⟩ | ⟨b, -⟩
      · exact b
      · omega
    refine ⟨_, HeadP.put (y := out[(pp l i).2.1.toNat - 1]?.getD 0 - loss l fs i) hg ht hs hi h p2 c1.2 hb ?_⟩
    unfold Agree
    rw [List.getElem?_set_self (by omega), List.getElem?_set_ne (by omega)]
    rfl
  · by_cases c2 : far l 0 s (pp l i).2.2.1 = st ∧ far l 0 s (pp l i).2.1 = st + 1
    · have hb : BackK l 0 s (pp l i).2.1 i := by
        rcases tree_lev hg ht hs hi with ⟨b, -⟩ | ⟨-, b⟩
        · omega
        · exact b
      refine ⟨_, HeadP.put (y := out[(pp l i).2.2.1.toNat - 1]?.getD 0 + loss l fs i) hg ht hs hi h p1 c2.2 hb ?_⟩
      unfold Agree
      rw [List.getElem?_set_self (by omega), List.getElem?_set_ne (by omega), Option.getD_some]
      omega
    · exact ⟨out, h.skip hg ht hs hi c1 c2⟩
theorem head_row {M : Nat} {l : List Pip} {s : Int} {fs : List Int} {head : Int} {st : Nat} (hg : goodNet M l = true) (ht : treeB M l = true) (hs : 1 ≤ s ∧ s ≤ M) : ∀ i, i ≤ l.length → (∃ out, HeadP M l s fs head st 0 out) → ∃ out, HeadP M l s fs head st i out
  | 0, _, h => h
  | i + 1, hi, h => by
    obtain ⟨out, ho⟩ := head_row hg ht hs i (by omega) h
    exact head_step hg ht hs (by omega) ho
theorem head_lev {M : Nat} {l : List Pip} {s : Int} {fs : List Int} {head : Int} (hg : goodNet M l = true) (ht : treeB M l = true) (hs : 1 ≤ s ∧ s ≤ M) : ∀ st : Nat, ∃ out, HeadP M l s fs head st 0 out
  | 0 => ⟨_, HeadP.start (out := List.replicate M 0) hg ht hs (by simp)⟩
  | st + 1 => by
    obtain ⟨out, ho⟩ := head_row hg ht hs l.length (Nat.le_refl _) (head_lev hg ht hs st)
    exact ⟨out, ho.next⟩
theorem headL_ok {M : Nat} {l : List Pip} {s : Int} {fs : List Int} {head : Int} (hg : goodNet M l = true) (ht : treeB M l = true) (hs : 1 ≤ s ∧ s ≤ M) :
    (headL l fs s head M)[s.toNat - 1]?.getD 0 = head ∧ ∀ k, k < l.length → Agree l fs (headL l fs s head M) k := by
  obtain ⟨out, ho⟩ := head_lev (fs := fs) (head := head) hg ht hs M
  rw [← ho.done hg ht hs]
  exact ⟨ho.src, ho.all hg hs⟩
theorem headL_get {l : List Pip} {s : Int} {fs : List Int} {head : Int} {M k : Nat} (hk : k < M) : (headL l fs s head M)[k]?.getD 0 = head - lsum l fs (far l 0 ((k : Int) + 1)) s (far l 0 ((k : Int) + 1) s).toNat := by simp [headL, hk, headAt]
/-- The answers of HeadsOf, TreeFlows, LossOf and LossAlong on a tree. -/
theorem heads_yes {N s hd : Int} {l : List Pip} {ds R : List Int} (h : headsR N l s ds hd = (R, true)) :
    ∃ fs : List Int, treesR N l s ds = (fs, true) ∧ fs.length = l.length ∧ goodNet N l = true ∧ (1 ≤ s ∧ s ≤ N) ∧ R.length = N.toNat ∧ R[s.toNat - 1]?.getD 0 = hd ∧ ∀ k, k < l.length → ∃ x y, lossR N l fs (pp l k).1 = (x, true) ∧ R[(pp l k).2.1.toNat - 1]?.getD 0 - R[(pp l k).2.2.1.toNat - 1]?.getD 0 = x ∧ alongR N l fs s (pp l k).2.2.1 = (y, true) ∧ hd - y = R[(pp l k).2.2.1.toNat - 1]?.getD 0 := by
  unfold headsR at h
  split at h
  · rename_i h1
    obtain ⟨hc, -⟩ := (Bool.and_eq_true _ _).mp h1
    obtain ⟨hg, hs, hd', ht⟩ := canT_iff hc
    have hN := (goodNet_get hg).1
    obtain ⟨M, rfl⟩ : ∃ M : Nat, N = M := ⟨N.toNat, by omega⟩
    simp only [Int.toNat_natCast] at h
    simp only [Prod.mk.injEq, and_true] at h
    subst h
    have hfs := tflows_good (M := M) (n := l.length) (l := l) (s := s) (by omega) (by omega) hd'.2
    obtain ⟨k1, k2⟩ := headL_ok (fs := tflows M l s ds l.length) (head := hd) hg ht hs
    refine ⟨tflows M l s ds l.length, by unfold treesR; rw [if_pos hc]; simp, by rw [tflows_len], hg, hs, by rw [headL_len]; simp, k1, fun k hk => ?_⟩
    obtain ⟨-, p1, p2, hne, -⟩ := goodNet_pipe hg hk
    refine ⟨loss l (tflows M l s ds l.length) k, lsum l (tflows M l s ds l.length) (far l 0 (pp l k).2.2.1) s (far l 0 (pp l k).2.2.1 s).toNat, ?_, ?_, ?_, ?_⟩
    · unfold lossR
      rw [findQ_at hg hk, if_pos ⟨hg, hfs, by omega⟩]
      simp
    · have := k2 k hk
      unfold Agree at this
      omega
    · unfold alongR
      rw [if_pos ⟨by rw [hg, inR_iff.2 hs]; rfl, inR_iff.2 p2, hfs, ((treeB_iff hg).1 ht).2 _ s p2.1 p2.2 hs.1 hs.2⟩]
    · rw [headL_get (by omega), show (((pp l k).2.2.1.toNat - 1 : Nat) : Int) + 1 = (pp l k).2.2.1 by omega]
  · cases h
theorem headsR_fit {N s hd : Int} {l : List Pip} {ds R : List Int} (h : headsR N l s ds hd = (R, true)) : ∀ k, k < R.length → -4608000000 ≤ R[k]?.getD 0 ∧ R[k]?.getD 0 ≤ 104608000000 := by
  unfold headsR at h
  split at h
  · rename_i h1
    obtain ⟨hc, hh⟩ := (Bool.and_eq_true _ _).mp h1
    obtain ⟨hg, hs, hd', ht⟩ := canT_iff hc
    have hN := (goodNet_get hg).1
    obtain ⟨M, rfl⟩ : ∃ M : Nat, N = M := ⟨N.toNat, by omega⟩
    simp only [Int.toNat_natCast] at h
    simp only [Prod.mk.injEq, and_true] at h
    subst h
    have hfs := tflows_good (M := M) (n := l.length) (l := l) (s := s) (by omega) (by omega) hd'.2
    intro k hk
    rw [headL_len] at hk
    exact headL_fit hg hfs hs (inR_iff.1 hh) k hk
  · cases h

theorem prs_at (L hs : List Int) : ∀ (k j : Nat), j < k → j < L.length → (prs L hs k)[j]?.getD 0 = L[j]?.getD 0 - hs[j]?.getD 0
  | 0, j, h, _ => by omega
  | k + 1, j, h, hl => by
    unfold prs
    by_cases e : j = k
    · subst e
      rw [List.getElem?_set_self (by rw [prs_len]; exact hl)]
      rfl
    · rw [List.getElem?_set_ne (fun e2 => e e2.symm)]
      exact prs_at L hs k j (by omega) hl
theorem weakL_nil {L : List Int} {d : Int} : ∀ k, (∀ j, j < k → ¬ L[j]?.getD 0 < d) → weakL L d k = []
  | 0, _ => rfl
  | k + 1, h => by rw [weakL_no (h k (by omega))]; exact weakL_nil k (fun j hj => h j (by omega))
theorem weakL_ne {L : List Int} {d : Int} : ∀ k j, j < k → L[j]?.getD 0 < d → weakL L d k ≠ []
  | 0, j, h, _ => by omega
  | k + 1, j, h, hl => by
    by_cases c : L[k]?.getD 0 < d
    · rw [weakL_yes c]; simp
    · rw [weakL_no c]
      exact weakL_ne k j (by
        by_cases e : j = k
        · subst e; exact absurd hl c
        · omega) hl
theorem prs_head {l : List Pip} {fs hs : List Int} {s hd : Int} {M j : Nat} (hj : j < M) : (prs (headL l fs s hd M) hs M)[j]?.getD 0 = (prs (headL l fs s 0 M) hs M)[j]?.getD 0 + hd := by
  rw [prs_at _ _ _ _ hj (by rw [headL_len]; exact hj), prs_at _ _ _ _ hj (by rw [headL_len]; exact hj), headL_get hj, headL_get hj]
  omega
/-- With the head that is needed no node is weak, with less some node is. -/
theorem need_weak {N s need x : Int} {l : List Pip} {ds hs : List Int} (h : needR N l s ds hs need = (x, true)) : weakR N l s ds x hs need = ([], true) ∧ (0 ≤ x ∧ x ≤ 100000000000) ∧ ∀ R, weakR N l s ds (x - 1) hs need = (R, true) → R ≠ [] := by
  unfold needR at h
  split at h
  · rename_i h1
    split at h
    · rename_i h2
      simp only [Prod.mk.injEq, and_true] at h
      have hx := inR_iff.1 h2
      generalize hL : headL l (tflows N.toNat l s ds l.length) s 0 N.toNat = L at h h2 hx
      rw [h] at h2 hx
      have hub := needTo_ub (prs L hs N.toNat) need N.toNat
      have his := needTo_is (prs L hs N.toNat) need N.toNat
      rw [h] at hub his
      refine ⟨?_, hx, ?_⟩
      · unfold weakR
        rw [if_pos ⟨⟨by rw [h1.1.1, h2]; rfl, h1.1.2⟩, h1.2⟩, weakL_nil]
        intro j hj
        rw [prs_head hj, hL]
        have := hub j hj
        omega
      · intro R hR
        unfold weakR at hR
        split at hR
        · rename_i h3
          simp only [Prod.mk.injEq, and_true] at hR
          rw [← hR]
          have h4 := inR_iff.1 ((Bool.and_eq_true _ _).mp h3.1.1).2
          rcases his with e | ⟨j, hj, e⟩
          · omega
          · refine weakL_ne _ j hj ?_
            rw [prs_head hj, hL]
            omega
        · cases hR
    · cases h
  · cases h
/-- The loss along no way. -/
theorem along_self {N v x : Int} {l : List Pip} {fs : List Int} {b : Bool} (h : alongR N l fs v v = (x, b)) : x = 0 := by
  unfold alongR at h
  split at h
  · rename_i h1
    have hg : goodNet N l = true := ((Bool.and_eq_true _ _).mp h1.1).1
    rw [far_self hg] at h
    have := congrArg Prod.fst h
    simp [lsum] at this
    omega
  · exact (congrArg Prod.fst h).symm
theorem enrg_at {N : Int} {l : List Pip} {fs : List Int} {k : Nat} (hg : goodNet N l = true) (hk : k < l.length) (hq : -2000 ≤ fs[k]?.getD 0 ∧ fs[k]?.getD 0 ≤ 2000) :
    0 ≤ loss l fs k * fs[k]?.getD 0 ∧ loss l fs k * fs[k]?.getD 0 ≤ 72000000000 ∧ enrg l fs (k + 1) = enrg l fs k + loss l fs k * fs[k]?.getD 0 := by
  have p := (goodNet_pipe hg hk).2.2.2.2
  have e : loss l fs k * fs[k]?.getD 0 = (pp l k).2.2.2 * max (fs[k]?.getD 0) (-(fs[k]?.getD 0)) * fs[k]?.getD 0 * fs[k]?.getD 0 := by
    unfold loss
    rw [Int.mul_assoc, Int.mul_assoc (pp l k).2.2.2, Int.mul_assoc, Int.mul_assoc, Int.mul_left_comm (fs[k]?.getD 0)]
  have f := enrg_fit p hq
  rw [← e] at f
  have hn : 0 ≤ loss l fs k * fs[k]?.getD 0 := by
    rw [e, Int.mul_assoc]
    refine Int.mul_nonneg f.1.1 ?_
    rcases Int.le_total 0 (fs[k]?.getD 0) with h | h
    · exact Int.mul_nonneg h h
    · exact Int.mul_nonneg_of_nonpos_of_nonpos h h
  refine ⟨hn, f.2.2.2, ?_⟩
  rw [enrg_succ, e]
theorem enrg_pos {N : Int} {l : List Pip} {fs : List Int} (hg : goodNet N l = true) (hl : fs.length = l.length) (hs : slow fs = true) : ∀ k, k ≤ l.length → 0 ≤ enrg l fs k ∧ enrg l fs k ≤ 72000000000 * (k : Int)
  | 0, _ => by simp [enrg]
  | k + 1, hk => by
    have ih := enrg_pos hg hl hs k (by omega)
    have := enrg_at (fs := fs) hg (k := k) (by omega) (slow_iff.1 hs _ (getD_mem fs k (by omega)))
    omega
/-- The energy is not negative, and it is the losses times the flows. -/
theorem energy_yes {N x : Int} {l : List Pip} {fs : List Int} {b : Bool} (h : energyR N l fs = (x, b)) : 0 ≤ x ∧ (b = true → goodNet N l = true ∧ fs.length = l.length ∧ x = enrg l fs l.length ∧ ∀ k, k < l.length → lossR N l fs (pp l k).1 = (loss l fs k, true) ∧ (0 ≤ loss l fs k * fs[k]?.getD 0 ∧ loss l fs k * fs[k]?.getD 0 ≤ 72000000000) ∧ enrg l fs (k + 1) = enrg l fs k + loss l fs k * fs[k]?.getD 0 ∧ 0 ≤ enrg l fs k ∧ enrg l fs k ≤ 72000000000 * (k : Int)) := by
  unfold energyR at h
  split at h
  · rename_i h1
    obtain ⟨hg, hf, hs⟩ := h1
    have hl := (goodFl_iff.1 hf).1
    have hxx : enrg l fs l.length = x := congrArg Prod.fst h
    have hbb : true = b := congrArg Prod.snd h
    subst hxx
    subst hbb
    refine ⟨(enrg_pos hg hl hs _ (Nat.le_refl _)).1, fun _ => ⟨hg, hl, rfl, fun k hk => ?_⟩⟩
    have a := enrg_at (fs := fs) hg hk (slow_iff.1 hs _ (getD_mem fs k (by omega)))
    refine ⟨?_, ⟨a.1, a.2.1⟩, a.2.2, enrg_pos hg hl hs k (by omega)⟩
    unfold lossR
    rw [findQ_at hg hk, if_pos ⟨hg, hf, by omega⟩]
    simp
  · cases h
    exact ⟨by omega, fun e => by cases e⟩
/-- The pressures and the heights are the heads. -/
theorem press_heads {N s hd : Int} {l : List Pip} {ds hs R : List Int} (h : pressR N l s ds hd hs = (R, true)) : ∃ H, headsR N l s ds hd = (H, true) ∧ H.length = R.length ∧ hs.length = R.length ∧ R.length ≤ 8 ∧ ∀ k, k < R.length → R[k]?.getD 0 + hs[k]?.getD 0 = H[k]?.getD 0 := by
  unfold pressR at h
  split at h
  · rename_i h1
    simp only [Prod.mk.injEq, and_true] at h
    have hg := (canT_iff ((Bool.and_eq_true _ _).mp h1.1).1).1
    have hN := (goodNet_get hg).1
    have hh := (goodHt_iff.1 h1.2).1
    have hR : R.length = N.toNat := by rw [← h, prs_len, headL_len]
    refine ⟨headL l (tflows N.toNat l s ds l.length) s hd N.toNat, by unfold headsR; rw [if_pos h1.1], by rw [headL_len, hR], by omega, by omega, fun k hk => ?_⟩
    rw [← h, prs_at _ _ _ _ (by omega) (by rw [headL_len]; omega)]
    omega
  · cases h

end Go.Proofs.Ytlnhikhpkcgegaa

/-
  From a walk to a law's row: every argument reads as it did, because nothing that was there has turned.
-/
set_option linter.unusedVariables false
set_option linter.unusedSimpArgs false
namespace Go.Proofs.Ytlnhikhpkcgegaa
open Go.ChangeShapes Go.WideShapes Go.ChangeAt Go.RowKit Go.Joins

theorem Try.own : ownKnob Try.prog.godebug = none := by kernel_rfl
theorem Try.laidOut : laidOutB Try.prog = true := by kernel_rfl

theorem Try.cellsInt : Try.prog.cellsOf 3 = 1 := by kernel_rfl

theorem trodAll_below {H : Type} {enc : TypeId × Value → H} {W W' : World} (hb : Below W.heap.size W W') : ∀ (ts : List TypeId) (vs : List Value) (ds : List (DataW H)) (ps : List MemPlace),
    (∀ t ∈ ts, Try.prog.readableRec t = true ∧ t < Try.prog.types.size) → DataW.TrodAll enc Try.prog W 0 (fun _ => true) true ts vs ds ps → (∀ x ∈ ps, x.block < W.heap.size) →
    DataW.TrodAll enc Try.prog W' 0 (fun b => decide (b < W.heap.size)) true ts vs ds ps
  | [], vs, ds, ps, _, h, _ => by
    obtain ⟨rfl, rfl, rfl⟩ := trodAll_nil h
    exact trodAll_mk0
  | t :: ts, vs, ds, ps, hg, h, hl => by
    obtain ⟨v, vs', d, ds', p, q, rfl, rfl, rfl, h1, h2⟩ := trodAll_cons h
    have hg1 := hg t (by simp)
    exact trodAll_cons_mk (Below.trod Try.laidOut hg1.1 hg1.2 h1 hb (fun x hx => hl x (by simp [hx]))) (trodAll_below hb ts vs' ds' q (fun t ht => hg t (by simp [ht])) h2 (fun x hx => hl x (by simp [hx])))

set_option maxRecDepth 100000 in
theorem law_post {H : Type} {enc : TypeId × Value → H} {f : Func} {s : ChangeSpec} (hvars : s.vars = []) (hres : f.resultTypes = #[4]) (hgood : (f.params.toList.all fun t => Try.prog.readableRec t && decide (t < Try.prog.types.size)) = true)
    {W W' : World} {args : Array Value} {ds gs : List (DataW H)} {before : List MemPlace} (hW : DataW.Whole enc Try.prog f.params.toList s.vars false W args.toList ds gs before)
    (h1 : (s.fn H (ds ++ gs)).results = [.lit (.bool true)]) (h2 : (s.fn H (ds ++ gs)).args = ds) (h3 : (s.fn H (ds ++ gs)).vars = []) (hb : Below W.heap.size W W') :
    s.post enc Try.prog f false true false false W args (.bool true) W' := by
  have hW' := hW
  obtain ⟨p, q, hA, hV, rfl, hfz, hnd⟩ := hW
  have hlt : ∀ x ∈ p, x.block < W.heap.size := fun x hx => hW'.lt x (by simp [hx])
  refine ⟨ds, gs, p ++ q, [], p, [], hW', ?_, ?_, ?_, hb.frame _, fun h => by cases h⟩
  · rw [h1, hres]
    exact trodAll_mk1 (shut_bool Try.underlying4 true)
  · rw [h2]
    exact trodAll_below hb _ _ _ _ (fun t ht => by have := List.all_eq_true.1 hgood t ht; simpa using this) hA hlt
  · rw [h3, hvars]; rfl

set_option maxRecDepth 100000 in
theorem open_ints_at {H : Type} {enc : TypeId × Value → H} {W : World} {base : Nat} {v : Value} {d : DataW H} {p : List MemPlace}
    (hv : Value.okWide Try.prog W .any base 27 v) (h : DataW.Trod enc Try.prog W 0 (fun _ => true) true 27 v d p) :
    ∃ a n c l, v = .slice a n c ∧ IntsAt W a n l ∧ ∀ x ∈ l, -9223372036854775808 ≤ x ∧ x ≤ 9223372036854775807 := by
  obtain ⟨a0, len, cap, rfl⟩ := okWide_slice Try.underlying27 hv
  obtain ⟨fuel, hf⟩ := h
  rcases open_ints Try.underlying27 Try.underlying3 Try.cellsInt hf with ⟨hcs, hx⟩ | ⟨a, len', cap', zs, hcs, _, hl, hm, hz, hx, hcell, hwz⟩
  · simp [Value.cells] at hcs
    obtain ⟨rfl, rfl, rfl⟩ := hcs
    exact ⟨_, _, _, [], rfl, IntsAt.nil _ _, fun x hx => by cases hx⟩
  · simp [Value.cells] at hcs
    obtain ⟨rfl, rfl, rfl⟩ := hcs
    simp at hz
    refine ⟨_, _, _, zs.take len, rfl, ⟨by rw [List.length_take]; omega, ?_⟩, ?_⟩
    · intro k hk
      have h0 := hcell 0 (by omega)
      have hb := World.block_lt_of_cell? W _ (hcell 0 (by omega))
      have hsp : a.spot = none := by
        simp only [Addr.add, if_pos] at h0
        unfold World.cell? at h0
        split at h0
        · split at h0
          · cases h0
          · rename_i hs
            cases hq : a.spot with
            | none => rfl
            | some _ => rw [hq] at hs; exact absurd rfl hs
        · cases h0
      obtain ⟨b, off, sp⟩ := a
      simp only at hsp
      subst hsp
      refine ⟨b, off, rfl, by simpa [addr_add] using hb, ?_⟩
      have hk' := hcell k (by omega)
      rw [addr_add] at hk'
      rw [hk', List.getElem?_take, if_pos hk]
      rfl
    · intro x hx
      have := hwz x (List.mem_of_mem_take hx)
      simpa [Lit.wf, IntKind.min, IntKind.max, IntKind.signed, IntKind.bits] using this

end Go.Proofs.Ytlnhikhpkcgegaa

/-
  A code of bytes as an argument.
-/
set_option linter.unusedVariables false
set_option linter.unusedSimpArgs false
namespace Go.Proofs.Ytlnhikhpkcgegaa
open Go.ChangeShapes Go.WideShapes Go.ChangeAt Go.RowKit Go.Joins

theorem Try.cellsByte : Try.prog.cellsOf 5 = 1 := by kernel_rfl

set_option maxRecDepth 100000 in
theorem open_bytes {H : Type} {enc : TypeId × Value → H} {W : World} {base : Nat} {v : Value} {d : DataW H} {p : List MemPlace}
    (hv : Value.okWide Try.prog W .any base 22 v) (h : DataW.Trod enc Try.prog W 0 (fun _ => true) true 22 v d p) :
    ∃ a n c, v = .slice a n c ∧ BytesAt W a n := by
  obtain ⟨a0, len, cap, rfl⟩ := okWide_slice Try.underlying22 hv
  obtain ⟨fuel, hf⟩ := h
  rcases open_ints Try.underlying22 Try.underlying5 Try.cellsByte hf with ⟨hcs, hx⟩ | ⟨a, len', cap', zs, hcs, _, hl, hm, hz, hx, hcell, hwz⟩
  · simp [Value.cells] at hcs
    obtain ⟨rfl, rfl, rfl⟩ := hcs
    exact ⟨_, _, _, rfl, by omega, fun i hi => by omega⟩
  · simp [Value.cells] at hcs
    obtain ⟨rfl, rfl, rfl⟩ := hcs
    simp at hz
    refine ⟨_, _, _, rfl, by have := hm; unfold maxLen at *; omega, ?_⟩
    intro k hk
    have h0 := hcell 0 (by omega)
    have hb := World.block_lt_of_cell? W _ (hcell 0 (by omega))
    have hsp : a.spot = none := by
      simp only [Addr.add, if_pos] at h0
      unfold World.cell? at h0
      split at h0
      · split at h0
        · cases h0
        · rename_i hs
          cases hq : a.spot with
          | none => rfl
          | some _ => rw [hq] at hs; exact absurd rfl hs
      · cases h0
    obtain ⟨b, off, sp⟩ := a
    simp only at hsp
    subst hsp
    have hk' := hcell k (by omega)
    rw [addr_add] at hk'
    have hw := hwz _ (getD_mem zs k (by omega))
    have hw2 : 0 ≤ zs[k]?.getD 0 ∧ zs[k]?.getD 0 < 256 := by
      have : 0 ≤ zs[k]?.getD 0 ∧ zs[k]?.getD 0 ≤ 255 := by simpa [Lit.wf, IntKind.min, IntKind.max, IntKind.signed, IntKind.bits] using hw
      omega
    exact ⟨b, off, _, rfl, by simpa [addr_add] using hb, hk', hw2.1, hw2.2⟩

end Go.Proofs.Ytlnhikhpkcgegaa

/-
  What the laws on codes ask of their own helpers.
-/
set_option linter.unusedVariables false
set_option linter.unusedSimpArgs false
namespace Go.Proofs.Ytlnhikhpkcgegaa
open Go.RowKit

theorem l_vBig (a : Option Addr) (n c : Nat) (w : World) : Calls Try.prog 8 #[.slice a n c] w fun e w' => e = .returned (.bool (decide (65536 < n))) ∧ w = w' := by
  go_enter Try.func8, Try.ntmps8
  go_wp2
  go_ret
  exact ⟨ret_bool (by simp <;> omega), rfl⟩
theorem l_vInts_same (a b : Option Addr) (n c d : Nat) (l : List Int) (w : World) (h : IntsAt w a n l) (h' : IntsAt w b n l) (hn : n ≤ 4194304) :
    Calls Try.prog 12 #[.slice a n c, .slice b n d] w fun e w' => e = .returned (.bool true) ∧ Below w.heap.size w w' := by
  have h1 := l_vInts_eq a b n c d l l w h h' hn
  rwa [decide_eq_true (rfl : l = l)] at h1

end Go.Proofs.Ytlnhikhpkcgegaa

