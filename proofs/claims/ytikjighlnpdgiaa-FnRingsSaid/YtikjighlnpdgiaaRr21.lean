/-
  Texts of this claim, joined: RingsS, NetF2, Lift, LiftG, LawG, VHas.
-/
import Derived.Test.YtikjighlnpdgiaaRows
import Derived.ProofKit
import Derived.OpenShut
import Derived.Carry
import Derived.Lib.SmallJoins
import Derived.Test.YtikjighlnpdgiaaRr1
import Derived.Test.YtikjighlnpdgiaaRr3
import Derived.Test.YtikjighlnpdgiaaRr5
import Derived.Test.YtikjighlnpdgiaaRr13
import Derived.Test.YtikjighlnpdgiaaRr15
import Derived.Test.YtikjighlnpdgiaaRr16
/-
  RingFlows of the reference.
-/
set_option linter.unusedVariables false
set_option linter.unusedSimpArgs false
namespace Go.Proofs.Ytikjighlnpdgiaa
open Go.RowKit

set_option maxRecDepth 100000 in
set_option maxHeartbeats 8000000 in
theorem s_RingFlows (N s : Int) (a p : Option Addr) (n c m d : Nat) (l : List Pip) (ds : List Int) (w : World) (h : QAt w a n l) (h' : IntsAt w p m ds) (hn : n ≤ 1048576) (hm : m ≤ 1048576) (hc : n ≤ c) (R : List Int) (b : Bool) (hR : ringsR N l s ds = (R, b)) :
    Calls Try.prog 6 #[.agg #[.int .i64 N, .slice a n c], .int .i64 s, .slice p m d] w fun e w' => ∃ a' c', e = .returned (.tuple #[.slice a' R.length c', .bool b]) ∧ OwnI w' w.heap.size (.slice a' R.length c') R ∧ Below w.heap.size w w' := by
  have hln := h.1
  have hlm := h'.1
  have H := hid h
  have H' := hid h'
  clear h h'
  cases h1 : (goodNet N l && inR s 1 N)
  · obtain ⟨M, rfl⟩ : ∃ M : Int, M = N := ⟨_, rfl⟩
    rw [ringsR_no (fun hx => by rw [hx.1, hx.2.2.1] at h1; cases h1)] at hR
    cases hR
    have H1 := hid h1
    clear h1 hln hlm
    go_enter Try.func6, Try.ntmps6
    go_upto_region 1 with fail
    have BA := hid (by go_grown : Below w.heap.size w (w.alloc (.cells #[.int .i64 M, .slice a n c] 31)))
    have N0 := hid (cell_of_row _ _ 0 _ _ (0, 0) (heap_alloc_new w (.cells #[.int .i64 M, .slice a n c] 31)))
    have N1 := hid (cell_of_row _ _ 1 _ _ (0, 0) (heap_alloc_new w (.cells #[.int .i64 M, .slice a n c] 31)))
    have hzA : w.heap.size < (w.alloc (.cells #[.int .i64 M, .slice a n c] 31)).heap.size := by simp
    have n0 := N0.out
    have n1 := N1.out
    simp only [List.getElem?_toArray, List.getElem?_cons_zero, List.getElem?_cons_succ] at n0 n1
    generalize w.alloc (.cells #[.int .i64 M, .slice a n c] 31) = wA at *
    have KA := hid (show ∀ wx, Below wA.heap.size wA wx → (wx.cell? ⟨w.heap.size, 0, none⟩ = some (.int .i64 M) ∧ wx.cell? ⟨w.heap.size, 1, none⟩ = some (.slice a n c)) from fun wx hb => ⟨(hb.cell (p := ⟨w.heap.size, 0, none⟩) hzA).trans n0, (hb.cell (p := ⟨w.heap.size, 1, none⟩) hzA).trans n1⟩)
    go_wp2_with fail
    refine (s_l2Node M s _ _ _ l _ (H.out.below BA.out) hn).mono ?_
    rintro e w1 ⟨rfl, hb⟩
    rw [H1.out]
    have HB1 := hid (hb)
    clear n0 n1 hb
    obtain ⟨n0, n1⟩ := KA.out _ HB1.out
    have hz1 : w.heap.size < w1.heap.size := World.block_lt_of_cell? w1 _ n0
    go_wp2
    go_ret2
    exact ⟨_, _, rfl, (OwnI.lit0 _).mono (bstep BA.out HB1.out).size, bstep (bstep BA.out HB1.out) (by go_grown)⟩
  · obtain ⟨g1, g2⟩ := (Bool.and_eq_true _ _).mp h1
    have hN := (goodNet_get g1).1
    obtain ⟨M, rfl⟩ : ∃ M : Nat, N = M := ⟨N.toNat, by omega⟩
    have H1 := hid h1
    clear h1
    cases h2 : ringB M l
    · rw [ringsR_no (fun hx => by rw [hx.2.1] at h2; cases h2)] at hR
      cases hR
      have HG := hid g1
      have HR := hid h2
      clear h2 hln hlm
      go_enter Try.func6, Try.ntmps6
      go_upto_region 1 with fail
      have BA := hid (by go_grown : Below w.heap.size w (w.alloc (.cells #[.int .i64 M, .slice a n c] 31)))
      have N0 := hid (cell_of_row _ _ 0 _ _ (0, 0) (heap_alloc_new w (.cells #[.int .i64 M, .slice a n c] 31)))
      have N1 := hid (cell_of_row _ _ 1 _ _ (0, 0) (heap_alloc_new w (.cells #[.int .i64 M, .slice a n c] 31)))
      have hzA : w.heap.size < (w.alloc (.cells #[.int .i64 M, .slice a n c] 31)).heap.size := by simp
      have n0 := N0.out
      have n1 := N1.out
      simp only [List.getElem?_toArray, List.getElem?_cons_zero, List.getElem?_cons_succ] at n0 n1
      generalize w.alloc (.cells #[.int .i64 M, .slice a n c] 31) = wA at *
      have KA := hid (show ∀ wx, Below wA.heap.size wA wx → (wx.cell? ⟨w.heap.size, 0, none⟩ = some (.int .i64 M) ∧ wx.cell? ⟨w.heap.size, 1, none⟩ = some (.slice a n c)) from fun wx hb => ⟨(hb.cell (p := ⟨w.heap.size, 0, none⟩) hzA).trans n0, (hb.cell (p := ⟨w.heap.size, 1, none⟩) hzA).trans n1⟩)
      go_wp2_with fail
      refine (s_l2Node M s _ _ _ l _ (H.out.below BA.out) hn).mono ?_
      rintro e w1 ⟨rfl, hb⟩
      rw [H1.out]
      have HB1 := hid (hb)
      clear n0 n1 hb
      obtain ⟨n0, n1⟩ := KA.out _ HB1.out
      have hz1 : w.heap.size < w1.heap.size := World.block_lt_of_cell? w1 _ n0
      go_wp2_with fail
      refine (s_l10Ring M _ _ _ l _ (H.out.below (bstep BA.out HB1.out)) HG.out).mono ?_
      rintro e w2 ⟨rfl, hb⟩
      rw [HR.out]
      have HB2 := hid (bstep HB1.out hb)
      clear n0 n1 hb
      obtain ⟨n0, n1⟩ := KA.out _ HB2.out
      have hz2 : w.heap.size < w2.heap.size := World.block_lt_of_cell? w2 _ n0
      go_wp2
      go_ret2
      exact ⟨_, _, rfl, (OwnI.lit0 _).mono (bstep BA.out HB2.out).size, bstep (bstep BA.out HB2.out) (by go_grown)⟩
    · cases h3 : goodDem M ds
      · rw [ringsR_no (fun hx => by rw [hx.2.2.2.1] at h3; cases h3)] at hR
        cases hR
        have HG := hid g1
        have HR := hid h2
        have H3 := hid h3
        clear h2 h3 hln hlm
        go_enter Try.func6, Try.ntmps6
        go_upto_region 1 with fail
        have BA := hid (by go_grown : Below w.heap.size w (w.alloc (.cells #[.int .i64 M, .slice a n c] 31)))
        have N0 := hid (cell_of_row _ _ 0 _ _ (0, 0) (heap_alloc_new w (.cells #[.int .i64 M, .slice a n c] 31)))
        have N1 := hid (cell_of_row _ _ 1 _ _ (0, 0) (heap_alloc_new w (.cells #[.int .i64 M, .slice a n c] 31)))
        have hzA : w.heap.size < (w.alloc (.cells #[.int .i64 M, .slice a n c] 31)).heap.size := by simp
        have n0 := N0.out
        have n1 := N1.out
        simp only [List.getElem?_toArray, List.getElem?_cons_zero, List.getElem?_cons_succ] at n0 n1
        generalize w.alloc (.cells #[.int .i64 M, .slice a n c] 31) = wA at *
        have KA := hid (show ∀ wx, Below wA.heap.size wA wx → (wx.cell? ⟨w.heap.size, 0, none⟩ = some (.int .i64 M) ∧ wx.cell? ⟨w.heap.size, 1, none⟩ = some (.slice a n c)) from fun wx hb => ⟨(hb.cell (p := ⟨w.heap.size, 0, none⟩) hzA).trans n0, (hb.cell (p := ⟨w.heap.size, 1, none⟩) hzA).trans n1⟩)
        go_wp2_with fail
        refine (s_l2Node M s _ _ _ l _ (H.out.below BA.out) hn).mono ?_
        rintro e w1 ⟨rfl, hb⟩
        rw [H1.out]
        have HB1 := hid (hb)
        clear n0 n1 hb
        obtain ⟨n0, n1⟩ := KA.out _ HB1.out
        have hz1 : w.heap.size < w1.heap.size := World.block_lt_of_cell? w1 _ n0
        go_wp2_with fail
        refine (s_l10Ring M _ _ _ l _ (H.out.below (bstep BA.out HB1.out)) HG.out).mono ?_
        rintro e w2 ⟨rfl, hb⟩
        rw [HR.out]
        have HB2 := hid (bstep HB1.out hb)
        clear n0 n1 hb
        obtain ⟨n0, n1⟩ := KA.out _ HB2.out
        have hz2 : w.heap.size < w2.heap.size := World.block_lt_of_cell? w2 _ n0
        go_wp2_with fail
        refine (s_l8Demands M _ _ _ _ _ _ ds _ (H'.out.below (bstep BA.out HB2.out)) hm).mono ?_
        rintro e w3 ⟨rfl, hb⟩
        rw [H3.out]
        have HB3 := hid (bstep HB2.out hb)
        clear n0 n1 hb
        obtain ⟨n0, n1⟩ := KA.out _ HB3.out
        have hz3 : w.heap.size < w3.heap.size := World.block_lt_of_cell? w3 _ n0
        go_wp2
        go_ret2
        exact ⟨_, _, rfl, (OwnI.lit0 _).mono (bstep BA.out HB3.out).size, bstep (bstep BA.out HB3.out) (by go_grown)⟩
      · have H3 := hid h3
        by_cases h4 : ds.sum ≤ 200
        · skip
          have hds := goodDem_iff.1 h3
          have hmM : m = M := by omega
          subst hmM
          obtain ⟨k1, k2, k3⟩ := firstL_ok (ring_on g1 h2)
          have hnM : n = m := by have := ((ringB_iff g1).1 h2).1; omega
          have hn2 : 2 ≤ n := by
            have hp := goodNet_pipe g1 k1
            omega
          have hn10 : n ≤ 10 := by have := (goodNet_get g1).2.1; omega
          have hn0 : 0 < n := by omega
          have hT0 := nonneg_sum hds.2
          obtain ⟨T, hT⟩ : ∃ T : Nat, ds.sum = T := ⟨ds.sum.toNat, by omega⟩
          have hT200 : T ≤ 200 := by omega
          have HT := hid hT
          have HLN := hid hln
          have HG := hid g1
          have HR := hid h2
          have HS := hid (inR_iff.1 g2)
          have HD := hid hds.2
          have HDW := hid (show ∀ x ∈ ds, -1000000000000 ≤ x ∧ x ≤ 1000000000000 from fun x hx => by have := hds.2 x hx; omega)
          have HGE := hid (goodNet_sub (List.eraseIdx_sublist l (firstL l)) g1)
          have HTR := hid (ring_tree g1 h2 k1 k2)
          have HSG := hid (show ∀ i : Nat, i < n → -1 ≤ (loopS l)[i]?.getD 0 ∧ (loopS l)[i]?.getD 0 ≤ 1 from fun i hi => loopS_fit l (by omega))
          have hBl : (ringBase m l s ds).length = n := by rw [ringBase_len (by omega), hln]
          have HBF := hid (show ∀ y ∈ ringBase m l s ds, -8000 ≤ y ∧ y ≤ 8000 from fun y hy => by have := ringBase_in hds.2 hlm hy; omega)
          have HSL := hid (show ∀ x, -401 ≤ x → x ≤ 401 → slow (turnF (loopS l) (ringBase m l s ds) x n) = true from fun x x1 x2 => slow_iff.2 (fun y hy => by
            rw [← hln] at hy
            have := turn_in (s := s) (l := l) (by omega) hds.2 hlm (by omega) ⟨x1, x2⟩ y hy
            omega))
          have HE := hid (show ∀ x, enrg l (turnF (loopS l) (ringBase m l s ds) x n) n = ringE m l s ds x from fun x => by rw [← hln]; rfl)
          have hlen : ∀ x, (turnF (loopS l) (ringBase m l s ds) x n).length = n := fun x => by rw [turnF_len, hBl]
          have hz0 : ∀ j, j < firstL l → (loopS l)[j]?.getD 0 = 0 := fun j hj => (loopS_on g1 h2 (by omega)).2 (k3 j hj)
          have hz1 : ¬ (loopS l)[firstL l]?.getD 0 = 0 := fun e => by
            rw [loopS_on g1 h2 k1, k2] at e
            cases e
          have HTL := hid (tflows_len m (l.eraseIdx (firstL l)) s ds (n - 1))
          have HBB := hid (show ringBase m l s ds = baseF (firstL l) (tflows m (l.eraseIdx (firstL l)) s ds (n - 1)) from by unfold ringBase; rw [hln])
          have HBK := hid (show ∀ k : Nat, -(T : Int) ≤ bestT (ringE m l s ds) (-(T : Int)) k ∧ bestT (ringE m l s ds) (-(T : Int)) k ≤ -(T : Int) + k from fun k => ⟨(bestT_is _ _ k).low, (bestT_is _ _ k).high⟩)
          have e0 : ringsR m l s ds = (turnF (loopS l) (ringBase m l s ds) (bestT (ringE m l s ds) (-(T : Int)) (2 * T)) n, true) := by
            unfold ringsR ringFs ringX
            rw [if_pos (by unfold canRing; rw [g1, h2, g2, h3]; simpa using h4), Int.toNat_natCast, hln, hT, show (2 * (T : Int)).toNat = 2 * T by omega]
          rw [e0] at hR
          cases hR
          rw [hlen]
          obtain ⟨i0, hi0⟩ : ∃ i0, firstL l = i0 := ⟨_, rfl⟩
          rw [hi0] at HGE HTR hz0 hz1 HTL HBB k1
          obtain ⟨TF, hTF⟩ : ∃ TF, tflows m (l.eraseIdx i0) s ds (n - 1) = TF := ⟨_, rfl⟩
          have HTF := hid hTF
          rw [hTF] at HTL HBB
          obtain ⟨BS, hBS⟩ : ∃ BS, ringBase m l s ds = BS := ⟨_, rfl⟩
          rw [hBS] at HBF HSL HE HBB ⊢
          obtain ⟨E, hE⟩ : ∃ E, ringE m l s ds = E := ⟨_, rfl⟩
          rw [hE] at HE HBK ⊢
          have hi0n : i0 < n := by omega
          obtain ⟨q, hq⟩ : ∃ q, n - 1 = q := ⟨_, rfl⟩
          rw [hq] at HTL
          have HQ := hid hq
          have hq0 : 0 < q ∧ q < n ∧ n ≤ q + 1 := by omega
          have HTF2 := hid (show tflows m (l.eraseIdx i0) s ds q = TF from by rw [← hq]; exact hTF)
          have HZ0 := hid hz0
          have HZ1 := hid hz1
          have HNM := hid hnM
          clear hz0 hz1 hq hTF hBS hE hi0 e0 hlen hBl hT hT0 hds k1 k2 k3 h2 h3 h4 g1 g2 hln hlm hnM
          have hs4 : ¬ 200 < (T : Int) := by omega
          go_enter Try.func6, Try.ntmps6
          obtain ⟨M, hMM⟩ : ∃ M, M = m := ⟨_, rfl⟩
          subst hMM
          go_upto_region 1 with fail
          have BA := hid (by go_grown : Below w.heap.size w (w.alloc (.cells #[.int .i64 M, .slice a n c] 31)))
          have N0 := hid (cell_of_row _ _ 0 _ _ (0, 0) (heap_alloc_new w (.cells #[.int .i64 M, .slice a n c] 31)))
          have N1 := hid (cell_of_row _ _ 1 _ _ (0, 0) (heap_alloc_new w (.cells #[.int .i64 M, .slice a n c] 31)))
          have hzA : w.heap.size < (w.alloc (.cells #[.int .i64 M, .slice a n c] 31)).heap.size := by simp
          have n0 := N0.out
          have n1 := N1.out
          simp only [List.getElem?_toArray, List.getElem?_cons_zero, List.getElem?_cons_succ] at n0 n1
          generalize w.alloc (.cells #[.int .i64 M, .slice a n c] 31) = wA at *
          have KA := hid (show ∀ wx, Below wA.heap.size wA wx → (wx.cell? ⟨w.heap.size, 0, none⟩ = some (.int .i64 M) ∧ wx.cell? ⟨w.heap.size, 1, none⟩ = some (.slice a n c)) from fun wx hb => ⟨(hb.cell (p := ⟨w.heap.size, 0, none⟩) hzA).trans n0, (hb.cell (p := ⟨w.heap.size, 1, none⟩) hzA).trans n1⟩)
          go_wp2_with fail
          refine (s_l2Node M s _ _ _ l _ (H.out.below BA.out) hn).mono ?_
          rintro e w1 ⟨rfl, hb⟩
          rw [H1.out]
          have HB1 := hid (hb)
          clear n0 n1 hb
          obtain ⟨n0, n1⟩ := KA.out _ HB1.out
          have hz1 : w.heap.size < w1.heap.size := World.block_lt_of_cell? w1 _ n0
          go_wp2_with fail
          refine (s_l10Ring M _ _ _ l _ (H.out.below (bstep BA.out HB1.out)) HG.out).mono ?_
          rintro e w2 ⟨rfl, hb⟩
          rw [HR.out]
          have HB2 := hid (bstep HB1.out hb)
          clear n0 n1 hb
          obtain ⟨n0, n1⟩ := KA.out _ HB2.out
          have hz2 : w.heap.size < w2.heap.size := World.block_lt_of_cell? w2 _ n0
          go_wp2_with fail
          refine (s_l8Demands M _ _ _ _ _ _ ds _ (H'.out.below (bstep BA.out HB2.out)) hm).mono ?_
          rintro e w3 ⟨rfl, hb⟩
          rw [H3.out]
          have HB3 := hid (bstep HB2.out hb)
          clear n0 n1 hb
          obtain ⟨n0, n1⟩ := KA.out _ HB3.out
          have hz3 : w.heap.size < w3.heap.size := World.block_lt_of_cell? w3 _ n0
          go_wp2_with fail
          refine (s_l8Sum _ _ _ ds _ (H'.out.below (bstep BA.out HB3.out)) (by omega) HDW.out).mono ?_
          rintro e _ ⟨rfl, rfl⟩
          rw [HT.out]
          go_wp2_with fail
          refine (s_l10Loop M _ _ _ l _ (H.out.below (bstep BA.out HB3.out)) HG.out HR.out hc).mono ?_
          rintro e w4 ⟨a4, cl, rfl, ho4, hb⟩
          have HB4 := hid (bstep HB3.out hb)
          clear n0 n1 hb
          obtain ⟨n0, n1⟩ := KA.out _ HB4.out
          have hz4 : w.heap.size < w4.heap.size := World.block_lt_of_cell? w4 _ n0
          obtain ⟨gl, rfl, -, -⟩ := own_some ho4 hn0
          have HL4 := hid (ho4.mono (B' := wA.heap.size) HB3.out.size)
          clear ho4
          go_wp2
          go_loopg [9] i0 (fun gm f wr => ∃ k : Nat, k ≤ i0 ∧ gm = i0 - k ∧ f = .int .i64 k ∧ w4 = wr)
          case atStart => exact ⟨0, Nat.zero_le _, rfl, rfl, rfl⟩
          case round =>
            obtain ⟨k, hk, rfl, rfl, rfl⟩ := hrel
            have hcl := HL4.out.cell (k := k) (by omega)
            have j0 : (0 : Int) ≤ (k : Int) := by omega
            have j1 : (k : Int) < (n : Int) := by omega
            by_cases hlt : k < i0
            · rw [HZ0.out k hlt] at hcl
              go_wp2
              go_roundg (i0 - (k + 1))
              case rel => exact ⟨k + 1, by omega, rfl, by go_num, rfl⟩
              case measure => omega
            · obtain rfl : k = i0 := by omega
              have hne := HZ1.out
              obtain ⟨sg, hsg⟩ : ∃ sg, (loopS l)[k]?.getD 0 = sg := ⟨_, rfl⟩
              rw [hsg] at hcl hne
              have hnb : (sg == 0) = false := by simpa using hne
              clear hsg hlt
              go_wp2_with fail
              refine (s_l2Without M k _ _ _ l _ (H.out.below (bstep BA.out HB4.out)) (by omega) hc hi0n).mono ?_
              rintro e w5 ⟨a5, c5, rfl, ho5, hb⟩
              have HL5 := hid (HL4.out.below hb)
              have HB5 := hid (bstep HB4.out hb)
              clear n0 n1 hb
              obtain ⟨n0, n1⟩ := KA.out _ HB5.out
              have hz5 : w.heap.size < w5.heap.size := World.block_lt_of_cell? w5 _ n0
              have HR5 := hid (show OwnQ w5 w4.heap.size (.slice a5 q c5) (l.eraseIdx k) from by rw [← HQ.out]; exact ho5)
              clear ho5 hcl
              rw [HQ.out]
              go_wp2_with fail
              refine (s_l8TreeFlows M s _ _ q _ _ (l.eraseIdx k) ds _ (OwnS.at qf_len HR5.out) (H'.out.below (bstep BA.out HB5.out)) HGE.out HS.out HD.out HTR.out (own_capQ HR5.out)).mono ?_
              rintro e w6 ⟨a6, c6, rfl, ho6, hb⟩
              have hb6X := hid hb
              have HB6 := hid (bstep HB5.out hb)
              clear n0 n1 hb
              obtain ⟨n0, n1⟩ := KA.out _ HB6.out
              have hz6 : w.heap.size < w6.heap.size := World.block_lt_of_cell? w6 _ n0
              rw [HTF2.out] at ho6
              obtain ⟨gt, rfl, hgt1, hgt2⟩ := own_some ho6 hq0.1
              have HT6 := hid ho6
              have hcap := own_cap ho6
              clear ho6
              skip
              have hk : k ≤ q := by omega
              have k0 : (0 : Int) ≤ (k : Int) := by omega
              have k1 : (k : Int) ≤ (q : Int) := by omega
              have k2 : (k : Int) ≤ (c6 : Int) := by omega
              have k4 : ¬ c6 = 0 := by omega
              go_upto_region 8 with fail
              go_cut [11] (fun s11 wx => ∃ (ab : Option Addr) (cb : Nat), s11 = .slice ab n cb ∧ Hid (OwnI wx w6.heap.size (.slice ab n cb) BS ∧ Below w6.heap.size w6 wx))
              case first =>
                by_cases k3 : c6 = k
                · subst k3
                  have HDR := hid (show ∀ wx, Below w6.heap.size w6 wx → IntsAt wx (some ⟨gt, 0, none⟩) 0 (TF.drop c6) from fun wx hb => by exact IntsAt.nil' _ _ (by have := HTL.out; simp; omega))
                  go_region_law (first   | (refine step_append_ints (by rfl) _ _ (by rfl) (w6.heap.size) _ [] (by rfl) (by first | exact ((OwnI.lit0 _).mono (by simp)).drew | exact (((OwnI.lit0 _).mono (by simp)).alloc _).drew | exact ((OwnI.lit0' (by simp)).mono (by simp)).drew) _ c6 _ (TF.take c6) (by rfl) (by exact IntsAt.take (HT6.out.at.below (by go_grown)) hk) c6 (by simp) (by omega) (by simp <;> omega) ?_; intro a4 c4 w4x h4 g4 b4; have hb4 : Below w6.heap.size w6 w4x := Below.grown (by go_grown) g4 (by simp <;> omega) (fun q hq => by cases hq; first | exact Nat.le_refl _ | exact Nat.le_succ _))   | (refine step_append_ints (by rfl) _ _ (by rfl) (w6.heap.size) _ ([] ++ TF.take c6) (by rfl) (by first | exact h4 | exact h4.alloc _) _ 1 _ [0] (by rfl) (by first | exact IntsAt.single _ _ | exact ((IntsAt.single' (by simp) _).drew).kept g4 (fun b off e => by cases e; exact fun h => absurd (Option.some.inj h) (by simp <;> omega)) | exact (((IntsAt.single _ _).alloc _).drew).kept g4 (fun b off e => by cases e; exact fun h => absurd (Option.some.inj h) (by simp <;> omega))) (c6 + 1) (by have := HTL.out; simp; omega) (by omega) (by have := hb4.size; simp; omega) ?_; intro a7 c7 w7x h7 g7 b7; have hb7 : Below w6.heap.size w6 w7x := by first | exact hb4.grown g7 hb4.size (fun q hq => (h4.lt q hq).1) | exact (hb4.alloc hb4.size _).grown g7 (by have := hb4.size; simp; omega) (fun q hq => (h4.lt q hq).1))   | (refine step_append_ints (by rfl) _ _ (by rfl) (w6.heap.size) _ (([] ++ TF.take c6) ++ [0]) (by rfl) h7 _ 0 _ (TF.drop c6) (by rfl) (HDR.out w7x hb7) n (by have := HTL.out; simp; omega) (by omega) (by exact hb7.size) ?_; intro a11 c11 w11 h11 g11 b11; have hb11 : Below w6.heap.size w6 w11 := hb7.grown g11 hb7.size (fun q hq => (h7.lt q hq).1)))
                  all_goals (go_wp2_with fail; go_meet)
                  all_goals exact ⟨_, _, rfl, hid ⟨by rw [HBB.out]; simpa [baseF] using h11, hb11⟩⟩
                · have HDR := hid (show ∀ wx, Below w6.heap.size w6 wx → IntsAt wx (some ⟨gt, k, none⟩) (q - k) (TF.drop k) from fun wx hb => by have := ((HT6.out.at.below hb).drop hk); simpa using this)
                  go_region_law (first   | (refine step_append_ints (by rfl) _ _ (by rfl) (w6.heap.size) _ [] (by rfl) (by first | exact ((OwnI.lit0 _).mono (by simp)).drew | exact (((OwnI.lit0 _).mono (by simp)).alloc _).drew | exact ((OwnI.lit0' (by simp)).mono (by simp)).drew) _ k _ (TF.take k) (by rfl) (by exact IntsAt.take (HT6.out.at.below (by go_grown)) hk) k (by simp) (by omega) (by simp <;> omega) ?_; intro a4 c4 w4x h4 g4 b4; have hb4 : Below w6.heap.size w6 w4x := Below.grown (by go_grown) g4 (by simp <;> omega) (fun q hq => by cases hq; first | exact Nat.le_refl _ | exact Nat.le_succ _))   | (refine step_append_ints (by rfl) _ _ (by rfl) (w6.heap.size) _ ([] ++ TF.take k) (by rfl) (by first | exact h4 | exact h4.alloc _) _ 1 _ [0] (by rfl) (by first | exact IntsAt.single _ _ | exact ((IntsAt.single' (by simp) _).drew).kept g4 (fun b off e => by cases e; exact fun h => absurd (Option.some.inj h) (by simp <;> omega)) | exact (((IntsAt.single _ _).alloc _).drew).kept g4 (fun b off e => by cases e; exact fun h => absurd (Option.some.inj h) (by simp <;> omega))) (k + 1) (by have := HTL.out; simp; omega) (by omega) (by have := hb4.size; simp; omega) ?_; intro a7 c7 w7x h7 g7 b7; have hb7 : Below w6.heap.size w6 w7x := by first | exact hb4.grown g7 hb4.size (fun q hq => (h4.lt q hq).1) | exact (hb4.alloc hb4.size _).grown g7 (by have := hb4.size; simp; omega) (fun q hq => (h4.lt q hq).1))   | (refine step_append_ints (by rfl) _ _ (by rfl) (w6.heap.size) _ (([] ++ TF.take k) ++ [0]) (by rfl) h7 _ (q - k) _ (TF.drop k) (by rfl) (HDR.out w7x hb7) n (by have := HTL.out; simp; omega) (by omega) (by exact hb7.size) ?_; intro a11 c11 w11 h11 g11 b11; have hb11 : Below w6.heap.size w6 w11 := hb7.grown g11 hb7.size (fun q hq => (h7.lt q hq).1)))
                  all_goals (go_wp2_with fail; go_meet)
                  all_goals exact ⟨_, _, rfl, hid ⟨by rw [HBB.out]; simpa [baseF] using h11, hb11⟩⟩
              case rest =>
                obtain ⟨ab, cb, rfl, hcu⟩ := hcut
                obtain ⟨w7, rfl⟩ : ∃ W, W = wc := ⟨_, rfl⟩
                obtain ⟨gb, rfl, -, -⟩ := own_some hcu.out.1 hn0
                have HB7 := hid (bstep HB6.out hcu.out.2)
                have HLP7 := hid ((HL5.out.below hb6X.out).below hcu.out.2)
                have HBS := hid (hcu.out.1.mono (B' := wA.heap.size) HB6.out.size)
                skip
                clear n0 n1
                obtain ⟨n0, n1⟩ := KA.out _ HB7.out
                have hz7 : w.heap.size < w7.heap.size := World.block_lt_of_cell? w7 _ n0
                go_wp2_with fail
                refine (s_l8Sum _ _ _ ds _ (H'.out.below (bstep BA.out HB7.out)) (by omega) HDW.out).mono ?_
                rintro e _ ⟨rfl, rfl⟩
                rw [HT.out]
                have hwT : IntKind.i64.wrap (-(T : Int)) = -(T : Int) := IntWalk.i64_in _ (by omega)
                have hwT1 : IntKind.i64.wrap (-(T : Int) + 1) = -(T : Int) + 1 := IntWalk.i64_in _ (by omega)
                go_wp2_with fail
                refine (s_l10Turn _ _ _ _ _ (loopS l) BS (-(T : Int)) _ (HLP7.out).at HBS.out.at hn10 hn0 HSG.out HBF.out (by omega)).mono ?_
                rintro e w8 ⟨a8, c8, rfl, ho8, hb⟩
                have HBEST := hid (show OwnI w8 wA.heap.size (.slice a8 n c8) (turnF (loopS l) BS (bestT E (-(T : Int)) 0) n) from ho8.mono HB7.out.size)
                have HB8 := hid (bstep HB7.out hb)
                have HLP := hid (HLP7.out.below hb)
                have HBS8 := hid (HBS.out.below hb)
                clear HBS ho8 hb
                have HBS := HBS8
                clear n0 n1
                obtain ⟨n0, n1⟩ := KA.out _ HB8.out
                have hz8 : w.heap.size < w8.heap.size := World.block_lt_of_cell? w8 _ n0
                go_wp2
                go_loopg [13, 14] ((2 * T)) (fun gm best x wr => ∃ (k : Nat) (a1 : Option Addr) (c1 : Nat), k ≤ (2 * T) ∧ gm = (2 * T) - k ∧ x = .int .i64 (-(T : Int) + ((k : Int) + 1)) ∧ best = .slice a1 n c1 ∧ Hid (OwnI wr wA.heap.size (.slice a1 n c1) (turnF (loopS l) BS (bestT E (-(T : Int)) k) n) ∧ Below wA.heap.size wA wr ∧ OwnI wr wA.heap.size (.slice (some ⟨gl, 0, none⟩) n cl) (loopS l) ∧ OwnI wr wA.heap.size (.slice (some ⟨gb, 0, none⟩) n cb) BS))
                case atStart => exact ⟨0, _, _, Nat.zero_le _, rfl, by show Value.int _ _ = Value.int _ _; congr 1, rfl, hid ⟨HBEST.out, HB8.out, HLP.out, HBS.out⟩⟩
                case round =>
                  obtain ⟨k, a1, c1, hk, rfl, rfl, rfl, hh⟩ := hrel
                  clear n0 n1
                  obtain ⟨n0, n1⟩ := KA.out _ hh.out.2.1
                  have hzr : w.heap.size < wr.heap.size := World.block_lt_of_cell? wr _ n0
                  obtain ⟨X, hX⟩ : ∃ X, -(T : Int) + ((k : Int) + 1) = X := ⟨_, rfl⟩
                  rw [hX]
                  have HX := hid hX
                  have hbk := HBK.out k
                  obtain ⟨bk, hbe⟩ : ∃ bk, bestT E (-(T : Int)) k = bk := ⟨_, rfl⟩
                  have HBE := hid hbe
                  rw [hbe] at hh hbk
                  have hX1 : -(T : Int) + 1 ≤ X ∧ X ≤ -(T : Int) + ((2 * T) : Int) + 1 := by omega
                  have hwX : IntKind.i64.wrap (X + 1) = X + 1 := IntWalk.i64_in _ (by omega)
                  by_cases hlt : k < (2 * T)
                  · have hXle : X ≤ (T : Int) := by omega
                    clear hX hbe
                    go_wp2_with fail
                    refine (s_l10Turn _ _ _ _ _ (loopS l) BS X _ hh.out.2.2.1.at hh.out.2.2.2.at hn10 hn0 HSG.out HBF.out (by omega)).mono ?_
                    rintro e v1 ⟨a11, c11, rfl, ho11, hb11⟩
                    have HN := hid (ho11.mono (B' := wA.heap.size) hh.out.2.1.size)
                    have HV := hid (show OwnI v1 wA.heap.size (.slice a1 n c1) (turnF (loopS l) BS bk n) ∧ Below wA.heap.size wA v1 ∧ OwnI v1 wA.heap.size (.slice (some ⟨gl, 0, none⟩) n cl) (loopS l) ∧ OwnI v1 wA.heap.size (.slice (some ⟨gb, 0, none⟩) n cb) BS from ⟨hh.out.1.below hb11, bstep hh.out.2.1 hb11, hh.out.2.2.1.below hb11, hh.out.2.2.2.below hb11⟩)
                    clear n0 n1 ho11 hb11 hzr
                    obtain ⟨n0, n1⟩ := KA.out _ HV.out.2.1
                    have hzv : w.heap.size < v1.heap.size := World.block_lt_of_cell? v1 _ n0
                    by_cases hc9 : E X < E bk
                    · have EB := hid (show bestT E (-(T : Int)) (k + 1) = X from by rw [← HX.out]; exact bestT_yes (by rw [HX.out, HBE.out]; exact hc9))
                      go_upto_region 15 with fail
                      refine wp_region_noPanic ?_
                      refine wp_region_held_drew (S := (fun w' => w'.cell? ⟨w.heap.size, 0, none⟩ = some (.int .i64 M) ∧ w'.cell? ⟨w.heap.size, 1, none⟩ = some (.slice a n c))) (by kernel_rfl) (by exact ⟨n0, n1⟩) (fun hHeld => ?_)
                      refine wpAnyH_take' (i := 0) (v := ?_) rfl (by kernel_rfl) (by kernel_rfl) (by kernel_rfl) (fun _ _ _ h => h) (Or.inl ⟨by rfl, ?_⟩) (by assumption) ?_
                      rotate_left
                      · (intro w' hSw; (try dsimp only at hSw); go_simp; all_goals with_reducible rfl)
                      try simp only [Act.put, List.setIfInBounds_toArray, List.set_cons_zero, List.set_cons_succ]
                      refine wpAnyH_take' (i := 1) (v := ?_) rfl (by kernel_rfl) (by kernel_rfl) (by kernel_rfl) (fun _ _ _ h => h) (Or.inl ⟨by rfl, ?_⟩) (by assumption) ?_
                      rotate_left
                      · (intro w' hSw; (try dsimp only at hSw); go_simp; all_goals with_reducible rfl)
                      try simp only [Act.put, List.setIfInBounds_toArray, List.set_cons_zero, List.set_cons_succ]
                      refine wpAnyH_take' (i := 3) (v := ?_) rfl (by kernel_rfl) (by kernel_rfl) (by kernel_rfl) (fun _ _ _ h => h) (Or.inl ⟨by rfl, ?_⟩) (by assumption) ?_
                      rotate_left
                      · (intro w' hSw; (try dsimp only at hSw); go_simp; all_goals with_reducible rfl)
                      try simp only [Act.put, List.setIfInBounds_toArray, List.set_cons_zero, List.set_cons_succ]
                      refine wpAnyH_take' (i := 4) (v := ?_) rfl (by kernel_rfl) (by kernel_rfl) (by kernel_rfl) (fun _ _ _ h => h) (Or.inl ⟨by rfl, ?_⟩) (by assumption) ?_
                      rotate_left
                      · (intro w' hSw; (try dsimp only at hSw); go_simp; all_goals with_reducible rfl)
                      try simp only [Act.put, List.setIfInBounds_toArray, List.set_cons_zero, List.set_cons_succ]
                      refine wpAnyH_ready (rs := [2]) (by kernel_rfl) (by simp) ?_
                      refine allReadyH_cons' rfl (fun Kn hKn => ?_) AllReadyH.nil
                      go_simp
                      go_at_call 38
                      refine (s_l9Energy M _ _ n _ _ l (turnF (loopS l) BS X n) _ (H.out.below (bstep BA.out (bstep HV.out.2.1 (by go_grown)))) (HN.out.below (by go_grown)).at HG.out (HSL.out X (by omega) (by omega))).mono ?_
                      rintro e v2 ⟨rfl, hb12⟩
                      rw [HE.out]
                      have HB12 := hid (bstep (by go_grown) hb12 : Below v1.heap.size v1 v2)
                      clear hb12
                      refine hKn.out _ _ (KA.out _ (bstep HV.out.2.1 HB12.out)) (fun hHeldN => ?_)
                      clear hKn Kn hHeld
                      have hHeld := hHeldN
                      clear hHeldN
                      try simp only [Act.put, List.setIfInBounds_toArray, List.set_cons_zero, List.set_cons_succ]
                      refine wpAnyH_ready (rs := [5]) (by kernel_rfl) (by simp) ?_
                      refine allReadyH_cons' rfl (fun Kn hKn => ?_) AllReadyH.nil
                      go_simp
                      go_at_call 38
                      refine (s_l9Energy M _ _ n _ _ l (turnF (loopS l) BS bk n) _ (H.out.below (bstep BA.out (bstep HV.out.2.1 HB12.out))) (HV.out.1.below HB12.out).at HG.out (HSL.out bk (by omega) (by omega))).mono ?_
                      rintro e v3 ⟨rfl, hb13⟩
                      rw [HE.out]
                      have HB13 := hid (bstep HB12.out hb13 : Below v1.heap.size v1 v3)
                      clear hb13
                      refine hKn.out _ _ (KA.out _ (bstep HV.out.2.1 HB13.out)) (fun hHeldN => ?_)
                      clear hKn Kn hHeld
                      have hHeld := hHeldN
                      clear hHeldN
                      try simp only [Act.put, List.setIfInBounds_toArray, List.set_cons_zero, List.set_cons_succ]
                      refine wpAnyH_take' (i := 6) (v := ?_) rfl (by kernel_rfl) (by kernel_rfl) (by kernel_rfl) (fun _ _ _ h => h) (Or.inl ⟨by rfl, ?_⟩) (by assumption) ?_
                      rotate_left
                      · (intro w' hSw; (try dsimp only at hSw); go_simp; all_goals with_reducible rfl)
                      try simp only [Act.put, List.setIfInBounds_toArray, List.set_cons_zero, List.set_cons_succ]
                      refine wpAnyH_done (by kernel_rfl) ?_ _
                      refine NoPanic.normal ?_
                      clear hHeld
                      clear n0 n1
                      go_wp2
                      go_roundg ((2 * T) - (k + 1))
                      case rel => exact ⟨k + 1, _, _, by omega, rfl, by show Value.int _ _ = Value.int _ _; congr 1; rw [← HX.out]; omega, rfl, hid ⟨by rw [EB.out]; exact HN.out.below HB13.out, bstep HV.out.2.1 HB13.out, HV.out.2.2.1.below HB13.out, HV.out.2.2.2.below HB13.out⟩⟩
                      case measure => omega
                    · have EB := hid (show bestT E (-(T : Int)) (k + 1) = bk from by rw [← HBE.out]; exact bestT_no (by rw [HX.out, HBE.out]; exact hc9))
                      go_upto_region 15 with fail
                      refine wp_region_noPanic ?_
                      refine wp_region_held_drew (S := (fun w' => w'.cell? ⟨w.heap.size, 0, none⟩ = some (.int .i64 M) ∧ w'.cell? ⟨w.heap.size, 1, none⟩ = some (.slice a n c))) (by kernel_rfl) (by exact ⟨n0, n1⟩) (fun hHeld => ?_)
                      refine wpAnyH_take' (i := 0) (v := ?_) rfl (by kernel_rfl) (by kernel_rfl) (by kernel_rfl) (fun _ _ _ h => h) (Or.inl ⟨by rfl, ?_⟩) (by assumption) ?_
                      rotate_left
                      · (intro w' hSw; (try dsimp only at hSw); go_simp; all_goals with_reducible rfl)
                      try simp only [Act.put, List.setIfInBounds_toArray, List.set_cons_zero, List.set_cons_succ]
                      refine wpAnyH_take' (i := 1) (v := ?_) rfl (by kernel_rfl) (by kernel_rfl) (by kernel_rfl) (fun _ _ _ h => h) (Or.inl ⟨by rfl, ?_⟩) (by assumption) ?_
                      rotate_left
                      · (intro w' hSw; (try dsimp only at hSw); go_simp; all_goals with_reducible rfl)
                      try simp only [Act.put, List.setIfInBounds_toArray, List.set_cons_zero, List.set_cons_succ]
                      refine wpAnyH_take' (i := 3) (v := ?_) rfl (by kernel_rfl) (by kernel_rfl) (by kernel_rfl) (fun _ _ _ h => h) (Or.inl ⟨by rfl, ?_⟩) (by assumption) ?_
                      rotate_left
                      · (intro w' hSw; (try dsimp only at hSw); go_simp; all_goals with_reducible rfl)
                      try simp only [Act.put, List.setIfInBounds_toArray, List.set_cons_zero, List.set_cons_succ]
                      refine wpAnyH_take' (i := 4) (v := ?_) rfl (by kernel_rfl) (by kernel_rfl) (by kernel_rfl) (fun _ _ _ h => h) (Or.inl ⟨by rfl, ?_⟩) (by assumption) ?_
                      rotate_left
                      · (intro w' hSw; (try dsimp only at hSw); go_simp; all_goals with_reducible rfl)
                      try simp only [Act.put, List.setIfInBounds_toArray, List.set_cons_zero, List.set_cons_succ]
                      refine wpAnyH_ready (rs := [2]) (by kernel_rfl) (by simp) ?_
                      refine allReadyH_cons' rfl (fun Kn hKn => ?_) AllReadyH.nil
                      go_simp
                      go_at_call 38
                      refine (s_l9Energy M _ _ n _ _ l (turnF (loopS l) BS X n) _ (H.out.below (bstep BA.out (bstep HV.out.2.1 (by go_grown)))) (HN.out.below (by go_grown)).at HG.out (HSL.out X (by omega) (by omega))).mono ?_
                      rintro e v2 ⟨rfl, hb12⟩
                      rw [HE.out]
                      have HB12 := hid (bstep (by go_grown) hb12 : Below v1.heap.size v1 v2)
                      clear hb12
                      refine hKn.out _ _ (KA.out _ (bstep HV.out.2.1 HB12.out)) (fun hHeldN => ?_)
                      clear hKn Kn hHeld
                      have hHeld := hHeldN
                      clear hHeldN
                      try simp only [Act.put, List.setIfInBounds_toArray, List.set_cons_zero, List.set_cons_succ]
                      refine wpAnyH_ready (rs := [5]) (by kernel_rfl) (by simp) ?_
                      refine allReadyH_cons' rfl (fun Kn hKn => ?_) AllReadyH.nil
                      go_simp
                      go_at_call 38
                      refine (s_l9Energy M _ _ n _ _ l (turnF (loopS l) BS bk n) _ (H.out.below (bstep BA.out (bstep HV.out.2.1 HB12.out))) (HV.out.1.below HB12.out).at HG.out (HSL.out bk (by omega) (by omega))).mono ?_
                      rintro e v3 ⟨rfl, hb13⟩
                      rw [HE.out]
                      have HB13 := hid (bstep HB12.out hb13 : Below v1.heap.size v1 v3)
                      clear hb13
                      refine hKn.out _ _ (KA.out _ (bstep HV.out.2.1 HB13.out)) (fun hHeldN => ?_)
                      clear hKn Kn hHeld
                      have hHeld := hHeldN
                      clear hHeldN
                      try simp only [Act.put, List.setIfInBounds_toArray, List.set_cons_zero, List.set_cons_succ]
                      refine wpAnyH_take' (i := 6) (v := ?_) rfl (by kernel_rfl) (by kernel_rfl) (by kernel_rfl) (fun _ _ _ h => h) (Or.inl ⟨by rfl, ?_⟩) (by assumption) ?_
                      rotate_left
                      · (intro w' hSw; (try dsimp only at hSw); go_simp; all_goals with_reducible rfl)
                      try simp only [Act.put, List.setIfInBounds_toArray, List.set_cons_zero, List.set_cons_succ]
                      refine wpAnyH_done (by kernel_rfl) ?_ _
                      refine NoPanic.normal ?_
                      clear hHeld
                      clear n0 n1
                      go_wp2
                      go_roundg ((2 * T) - (k + 1))
                      case rel => exact ⟨k + 1, _, _, by omega, rfl, by show Value.int _ _ = Value.int _ _; congr 1; rw [← HX.out]; omega, rfl, hid ⟨by rw [EB.out]; exact HV.out.1.below HB13.out, bstep HV.out.2.1 HB13.out, HV.out.2.2.1.below HB13.out, HV.out.2.2.2.below HB13.out⟩⟩
                      case measure => omega
                  · have hke : k = (2 * T) := by omega
                    have HKE := hid hke
                    have hXle : ¬ X ≤ (T : Int) := by omega
                    clear hX hbe hke
                    go_wp2
                    go_ret2
                    refine ⟨_, _, rfl, ?_, bstep BA.out hh.out.2.1⟩
                    rw [← HKE.out, HBE.out]
                    exact hh.out.1.mono BA.out.size
        · rw [ringsR_no (fun hx => by have := hx.2.2.2.2; omega)] at hR
          cases hR
          have HG := hid g1
          have hs4 : 200 < ds.sum := by omega
          have HDW := hid (show ∀ x ∈ ds, -1000000000000 ≤ x ∧ x ≤ 1000000000000 from fun x hx => by have := (goodDem_iff.1 h3).2 x hx; omega)
          have HR := hid h2
          clear h2 hln hlm
          go_enter Try.func6, Try.ntmps6
          go_upto_region 1 with fail
          have BA := hid (by go_grown : Below w.heap.size w (w.alloc (.cells #[.int .i64 M, .slice a n c] 31)))
          have N0 := hid (cell_of_row _ _ 0 _ _ (0, 0) (heap_alloc_new w (.cells #[.int .i64 M, .slice a n c] 31)))
          have N1 := hid (cell_of_row _ _ 1 _ _ (0, 0) (heap_alloc_new w (.cells #[.int .i64 M, .slice a n c] 31)))
          have hzA : w.heap.size < (w.alloc (.cells #[.int .i64 M, .slice a n c] 31)).heap.size := by simp
          have n0 := N0.out
          have n1 := N1.out
          simp only [List.getElem?_toArray, List.getElem?_cons_zero, List.getElem?_cons_succ] at n0 n1
          generalize w.alloc (.cells #[.int .i64 M, .slice a n c] 31) = wA at *
          have KA := hid (show ∀ wx, Below wA.heap.size wA wx → (wx.cell? ⟨w.heap.size, 0, none⟩ = some (.int .i64 M) ∧ wx.cell? ⟨w.heap.size, 1, none⟩ = some (.slice a n c)) from fun wx hb => ⟨(hb.cell (p := ⟨w.heap.size, 0, none⟩) hzA).trans n0, (hb.cell (p := ⟨w.heap.size, 1, none⟩) hzA).trans n1⟩)
          go_wp2_with fail
          refine (s_l2Node M s _ _ _ l _ (H.out.below BA.out) hn).mono ?_
          rintro e w1 ⟨rfl, hb⟩
          rw [H1.out]
          have HB1 := hid (hb)
          clear n0 n1 hb
          obtain ⟨n0, n1⟩ := KA.out _ HB1.out
          have hz1 : w.heap.size < w1.heap.size := World.block_lt_of_cell? w1 _ n0
          go_wp2_with fail
          refine (s_l10Ring M _ _ _ l _ (H.out.below (bstep BA.out HB1.out)) HG.out).mono ?_
          rintro e w2 ⟨rfl, hb⟩
          rw [HR.out]
          have HB2 := hid (bstep HB1.out hb)
          clear n0 n1 hb
          obtain ⟨n0, n1⟩ := KA.out _ HB2.out
          have hz2 : w.heap.size < w2.heap.size := World.block_lt_of_cell? w2 _ n0
          go_wp2_with fail
          refine (s_l8Demands M _ _ _ _ _ _ ds _ (H'.out.below (bstep BA.out HB2.out)) hm).mono ?_
          rintro e w3 ⟨rfl, hb⟩
          rw [H3.out]
          have HB3 := hid (bstep HB2.out hb)
          clear n0 n1 hb
          obtain ⟨n0, n1⟩ := KA.out _ HB3.out
          have hz3 : w.heap.size < w3.heap.size := World.block_lt_of_cell? w3 _ n0
          go_wp2_with fail
          refine (s_l8Sum _ _ _ ds _ (H'.out.below (bstep BA.out HB3.out)) (by omega) HDW.out).mono ?_
          rintro e _ ⟨rfl, rfl⟩
          go_wp2
          go_ret2
          exact ⟨_, _, rfl, (OwnI.lit0 _).mono (bstep BA.out HB3.out).size, bstep (bstep BA.out HB3.out) (by go_grown)⟩

end Go.Proofs.Ytikjighlnpdgiaa

/-
  Networks: EnergyOf.
-/
set_option linter.unusedVariables false
set_option linter.unusedSimpArgs false
namespace Go.Proofs.Ytikjighlnpdgiaa
open Go.RowKit

theorem energyR_no {N : Int} {l : List Pip} {fs : List Int} (h : goodNet N l = false ∨ goodFl l.length fs = false ∨ slow fs = false) : energyR N l fs = (0, false) := by
  unfold energyR
  rw [if_neg]
  rintro ⟨h1, h2, h3⟩
  rcases h with h | h | h
  · rw [h1] at h; cases h
  · rw [h2] at h; cases h
  · rw [h3] at h; cases h

theorem i_EnergyOf (N : Int) (a b : Option Addr) (n c m d : Nat) (l : List Pip) (fs : List Int) (w : World) (h : QAt w a n l) (h' : IntsAt w b m fs) (hn : n ≤ 1048576) (hm : m ≤ 1048576) (x : Int) (y : Bool) (hR : energyR N l fs = (x, y)) :
    Calls Try.prog 19 #[.agg #[.int .i64 N, .slice a n c], .slice b m d] w fun e w' => e = .returned (.tuple #[.int .i64 x, .bool y]) ∧ Below w.heap.size w w' := by
  have hl := h.1
  have H := hid h
  have H' := hid h'
  clear h h'
  by_cases h12 : (goodNet N l && goodFl n fs) = true
  · have HF := hid h12
    have h2 := ((Bool.and_eq_true _ _).mp h12)
    have hmn : m = n := by have := (goodFl_iff.1 h2.2).1; have := H'.out.1; omega
    subst hmn
    have HB8 := hid (goodFl_iff.1 h2.2).2
    cases h3 : slow fs
    · have H3 : Hid ((fs.any fun x => !inR x (-2000) 2000) = true) := hid (by simpa [slow] using h3)
      rw [energyR_no (.inr (.inr h3))] at hR
      cases hR
      clear h12 h2 h3 hl
      go_enter Try.func19, Try.ntmps19
      go_wp2_with fail
      refine (i_isFlowing N _ _ _ _ _ _ l fs _ (H.out.below (by go_grown)) (H'.out.below (by go_grown)) (by omega) (by omega)).mono ?_
      rintro e w1 ⟨rfl, hb1⟩
      rw [HF.out]
      have HB1 := hid (bstep (by go_grown) hb1 : Below w.heap.size w w1)
      go_wp2_with fail
      refine (f_ContainsFunc 61 #[] (fun x => !inR x (-2000) 2000) enters_EnergyOf b m d fs _ (H'.out.below HB1.out) (by omega) (fun x w' hx _ => i_EnergyOf1 x w' (HB8.out x hx))).mono ?_
      rintro e w2 ⟨rfl, hb2⟩
      rw [H3.out]
      go_wp2
      go_ret2
      exact ⟨rfl, bstep HB1.out hb2⟩
    · have H3 : Hid ((fs.any fun x => !inR x (-2000) 2000) = false) := hid (by simpa [slow] using h3)
      have HG := hid h2.1
      have HS := hid h3
      have e0 : energyR N l fs = (enrg l fs m, true) := by
        unfold energyR
        rw [if_pos ⟨h2.1, by rw [hl]; exact h2.2, h3⟩, hl]
      rw [e0] at hR
      cases hR
      clear h12 h2 h3 hl e0
      go_enter Try.func19, Try.ntmps19
      go_wp2_with fail
      refine (i_isFlowing N _ _ _ _ _ _ l fs _ (H.out.below (by go_grown)) (H'.out.below (by go_grown)) (by omega) (by omega)).mono ?_
      rintro e w1 ⟨rfl, hb1⟩
      rw [HF.out]
      obtain ⟨hc_w1, hf_w1⟩ := bcell hb1
      have hz_w1_0 : w.heap.size < w1.heap.size := by have := hb1.size; simp only [World.size_alloc] at this; omega
      have HB1 := hid (bstep (by go_grown) hb1 : Below w.heap.size w w1)
      go_wp2_with fail
      refine (f_ContainsFunc 61 #[] (fun x => !inR x (-2000) 2000) enters_EnergyOf b m d fs _ (H'.out.below HB1.out) (by omega) (fun x w' hx _ => i_EnergyOf1 x w' (HB8.out x hx))).mono ?_
      rintro e w2 ⟨rfl, hb2⟩
      rw [H3.out]
      obtain ⟨hc_w2, hf_w2⟩ := bcell hb2
      have hz_w2_0 : w.heap.size < w2.heap.size := by have := hb2.size; omega
      have HB2 := hid (bstep HB1.out hb2)
      go_wp2_with fail
      refine (i_energyOf N _ _ m _ _ l fs _ (H.out.below HB2.out) (H'.out.below HB2.out) HG.out HS.out).mono ?_
      rintro e w3 ⟨rfl, hb3⟩
      go_wp2
      go_ret2
      exact ⟨rfl, bstep HB2.out hb3⟩
  · have HF := hid (show (goodNet N l && goodFl n fs) = false by simpa using h12)
    have e0 : energyR N l fs = (0, false) := by
      apply energyR_no
      cases h1 : goodNet N l
      · exact .inl rfl
      · have := HF.out; rw [h1] at this; rw [hl]; exact .inr (.inl this)
    rw [e0] at hR
    cases hR
    clear h12 hl e0
    go_enter Try.func19, Try.ntmps19
    go_wp2_with fail
    refine (i_isFlowing N _ _ _ _ _ _ l fs _ (H.out.below (by go_grown)) (H'.out.below (by go_grown)) (by omega) (by omega)).mono ?_
    rintro e w1 ⟨rfl, hb1⟩
    rw [HF.out]
    go_wp2
    go_ret2
    exact ⟨rfl, bstep (by go_grown) hb1⟩


end Go.Proofs.Ytikjighlnpdgiaa

/-
  From a walk to a law's row: every argument reads as it did, because nothing that was there has turned.
-/
set_option linter.unusedVariables false
set_option linter.unusedSimpArgs false
namespace Go.Proofs.Ytikjighlnpdgiaa
open Go.ChangeShapes Go.WideShapes Go.ChangeAt Go.RowKit Go.Joins

theorem Try.own : ownKnob Try.prog.godebug = none := by kernel_rfl
theorem Try.laidOut : laidOutB Try.prog = true := by kernel_rfl

theorem Try.cellsInt : Try.prog.cellsOf 3 = 1 := by kernel_rfl

theorem trodAll_below {H : Type} {enc : TypeId × Value → H} {W W' : World} (hb : Below W.heap.size W W') : ∀ (ts : List TypeId) (vs : List Value) (ds : List (DataW H)) (ps : List MemPlace),
    (∀ t ∈ ts, Try.prog.readableRec t = true ∧ t < Try.prog.types.size) → DataW.TrodAll enc Try.prog W 0 (fun _ => true) true ts vs ds ps → (∀ x ∈ ps, x.block < W.heap.size) →
    DataW.TrodAll enc Try.prog W' 0 (fun b => decide (b < W.heap.size)) true ts vs ds ps
  | [], vs, ds, ps, _, h, _ => by
    obtain ⟨rfl, rfl, rfl⟩ := trodAll_nil h
    exact trodAll_mk0
  | t :: ts, vs, ds, ps, hg, h, hl => by
    obtain ⟨v, vs', d, ds', p, q, rfl, rfl, rfl, h1, h2⟩ := trodAll_cons h
    have hg1 := hg t (by simp)
    exact trodAll_cons_mk (Below.trod Try.laidOut hg1.1 hg1.2 h1 hb (fun x hx => hl x (by simp [hx]))) (trodAll_below hb ts vs' ds' q (fun t ht => hg t (by simp [ht])) h2 (fun x hx => hl x (by simp [hx])))

set_option maxRecDepth 100000 in
theorem law_post {H : Type} {enc : TypeId × Value → H} {f : Func} {s : ChangeSpec} (hvars : s.vars = []) (hres : f.resultTypes = #[4]) (hgood : (f.params.toList.all fun t => Try.prog.readableRec t && decide (t < Try.prog.types.size)) = true)
    {W W' : World} {args : Array Value} {ds gs : List (DataW H)} {before : List MemPlace} (hW : DataW.Whole enc Try.prog f.params.toList s.vars false W args.toList ds gs before)
    (h1 : (s.fn H (ds ++ gs)).results = [.lit (.bool true)]) (h2 : (s.fn H (ds ++ gs)).args = ds) (h3 : (s.fn H (ds ++ gs)).vars = []) (hb : Below W.heap.size W W') :
    s.post enc Try.prog f false true false false W args (.bool true) W' := by
  have hW' := hW
  obtain ⟨p, q, hA, hV, rfl, hfz, hnd⟩ := hW
  have hlt : ∀ x ∈ p, x.block < W.heap.size := fun x hx => hW'.lt x (by simp [hx])
  refine ⟨ds, gs, p ++ q, [], p, [], hW', ?_, ?_, ?_, hb.frame _, fun h => by cases h⟩
  · rw [h1, hres]
    exact trodAll_mk1 (shut_bool Try.underlying4 true)
  · rw [h2]
    exact trodAll_below hb _ _ _ _ (fun t ht => by have := List.all_eq_true.1 hgood t ht; simpa using this) hA hlt
  · rw [h3, hvars]; rfl

set_option maxRecDepth 100000 in
theorem open_ints_at {H : Type} {enc : TypeId × Value → H} {W : World} {base : Nat} {v : Value} {d : DataW H} {p : List MemPlace}
    (hv : Value.okWide Try.prog W .any base 25 v) (h : DataW.Trod enc Try.prog W 0 (fun _ => true) true 25 v d p) :
    ∃ a n c l, v = .slice a n c ∧ IntsAt W a n l ∧ ∀ x ∈ l, -9223372036854775808 ≤ x ∧ x ≤ 9223372036854775807 := by
  obtain ⟨a0, len, cap, rfl⟩ := okWide_slice Try.underlying25 hv
  obtain ⟨fuel, hf⟩ := h
  rcases open_ints Try.underlying25 Try.underlying3 Try.cellsInt hf with ⟨hcs, hx⟩ | ⟨a, len', cap', zs, hcs, _, hl, hm, hz, hx, hcell, hwz⟩
  · simp [Value.cells] at hcs
    obtain ⟨rfl, rfl, rfl⟩ := hcs
    exact ⟨_, _, _, [], rfl, IntsAt.nil _ _, fun x hx => by cases hx⟩
  · simp [Value.cells] at hcs
    obtain ⟨rfl, rfl, rfl⟩ := hcs
    simp at hz
    refine ⟨_, _, _, zs.take len, rfl, ⟨by rw [List.length_take]; omega, ?_⟩, ?_⟩
    · intro k hk
      have h0 := hcell 0 (by omega)
      have hb := World.block_lt_of_cell? W _ (hcell 0 (by omega))
      have hsp : a.spot = none := by
        simp only [Addr.add, if_pos] at h0
        unfold World.cell? at h0
        split at h0
        · split at h0
          · cases h0
          · rename_i hs
            cases hq : a.spot with
            | none => rfl
            | some _ => rw [hq] at hs; exact absurd rfl hs
        · cases h0
      obtain ⟨b, off, sp⟩ := a
      simp only at hsp
      subst hsp
      refine ⟨b, off, rfl, by simpa [addr_add] using hb, ?_⟩
      have hk' := hcell k (by omega)
      rw [addr_add] at hk'
      rw [hk', List.getElem?_take, if_pos hk]
      rfl
    · intro x hx
      have := hwz x (List.mem_of_mem_take hx)
      simpa [Lit.wf, IntKind.min, IntKind.max, IntKind.signed, IntKind.bits] using this

end Go.Proofs.Ytikjighlnpdgiaa

/-
  A code of bytes as an argument.
-/
set_option linter.unusedVariables false
set_option linter.unusedSimpArgs false
namespace Go.Proofs.Ytikjighlnpdgiaa
open Go.ChangeShapes Go.WideShapes Go.ChangeAt Go.RowKit Go.Joins

theorem Try.cellsByte : Try.prog.cellsOf 5 = 1 := by kernel_rfl

set_option maxRecDepth 100000 in
theorem open_bytes {H : Type} {enc : TypeId × Value → H} {W : World} {base : Nat} {v : Value} {d : DataW H} {p : List MemPlace}
    (hv : Value.okWide Try.prog W .any base 39 v) (h : DataW.Trod enc Try.prog W 0 (fun _ => true) true 39 v d p) :
    ∃ a n c, v = .slice a n c ∧ BytesAt W a n := by
  obtain ⟨a0, len, cap, rfl⟩ := okWide_slice Try.underlying39 hv
  obtain ⟨fuel, hf⟩ := h
  rcases open_ints Try.underlying39 Try.underlying5 Try.cellsByte hf with ⟨hcs, hx⟩ | ⟨a, len', cap', zs, hcs, _, hl, hm, hz, hx, hcell, hwz⟩
  · simp [Value.cells] at hcs
    obtain ⟨rfl, rfl, rfl⟩ := hcs
    exact ⟨_, _, _, rfl, by omega, fun i hi => by omega⟩
  · simp [Value.cells] at hcs
    obtain ⟨rfl, rfl, rfl⟩ := hcs
    simp at hz
    refine ⟨_, _, _, rfl, by have := hm; unfold maxLen at *; omega, ?_⟩
    intro k hk
    have h0 := hcell 0 (by omega)
    have hb := World.block_lt_of_cell? W _ (hcell 0 (by omega))
    have hsp : a.spot = none := by
      simp only [Addr.add, if_pos] at h0
      unfold World.cell? at h0
      split at h0
      · split at h0
        · cases h0
        · rename_i hs
          cases hq : a.spot with
          | none => rfl
          | some _ => rw [hq] at hs; exact absurd rfl hs
      · cases h0
    obtain ⟨b, off, sp⟩ := a
    simp only at hsp
    subst hsp
    have hk' := hcell k (by omega)
    rw [addr_add] at hk'
    have hw := hwz _ (getD_mem zs k (by omega))
    have hw2 : 0 ≤ zs[k]?.getD 0 ∧ zs[k]?.getD 0 < 256 := by
      have : 0 ≤ zs[k]?.getD 0 ∧ zs[k]?.getD 0 ≤ 255 := by simpa [Lit.wf, IntKind.min, IntKind.max, IntKind.signed, IntKind.bits] using hw
      omega
    exact ⟨b, off, _, rfl, by simpa [addr_add] using hb, hk', hw2.1, hw2.2⟩

end Go.Proofs.Ytikjighlnpdgiaa

/-
  What the laws on codes ask of their own helpers.
-/
set_option linter.unusedVariables false
set_option linter.unusedSimpArgs false
namespace Go.Proofs.Ytikjighlnpdgiaa
open Go.RowKit

theorem l_vBig (a : Option Addr) (n c : Nat) (w : World) : Calls Try.prog 15 #[.slice a n c] w fun e w' => e = .returned (.bool (decide (65536 < n))) ∧ w = w' := by
  go_enter Try.func15, Try.ntmps15
  go_wp2
  go_ret
  exact ⟨ret_bool (by simp <;> omega), rfl⟩
theorem l_vInts_same (a b : Option Addr) (n c d : Nat) (l : List Int) (w : World) (h : IntsAt w a n l) (h' : IntsAt w b n l) (hn : n ≤ 4194304) :
    Calls Try.prog 17 #[.slice a n c, .slice b n d] w fun e w' => e = .returned (.bool true) ∧ Below w.heap.size w w' := by
  have h1 := l_vInts_eq a b n c d l l w h h' hn
  rwa [decide_eq_true (rfl : l = l)] at h1

end Go.Proofs.Ytikjighlnpdgiaa

/-
  Whether a list has a number: the laws' own helper.
-/
set_option linter.unusedVariables false
set_option linter.unusedSimpArgs false
namespace Go.Proofs.Ytikjighlnpdgiaa
open Go.RowKit

theorem l_vHas (a : Option Addr) (n c : Nat) (x : Int) (l : List Int) (w : World) (h : IntsAt w a n l) (hn : n ≤ 1048576) :
    Calls Try.prog 28 #[.slice a n c, .int .i64 x] w fun e w' => e = .returned (.bool (decide (x ∈ l))) ∧ w = w' := by
  have H := hid h
  have HL := hid h.1
  clear h
  go_enter Try.func28, Try.ntmps28
  go_wp2
  go_loopg [5] n (fun g i wr => ∃ k : Nat, k ≤ n ∧ g = n - k ∧ i = .int .i64 k ∧ w = wr ∧ Hid (∀ j, j < k → l[j]?.getD 0 ≠ x))
  case atStart => exact ⟨0, Nat.zero_le _, rfl, rfl, rfl, hid (fun j hj => absurd hj (by omega))⟩
  case round =>
    obtain ⟨k, hk, rfl, rfl, rfl, hh⟩ := hrel
    by_cases hlt : k < n
    · obtain ⟨b, off, rfl, hbw, hcell⟩ := H.out.2 k hlt
      by_cases he : l[k]?.getD 0 = x
      · have E := hid (show true = decide (x ∈ l) by
          have : x ∈ l := he ▸ getD_mem' (k := k) (by have := HL.out; omega)
          simp [this])
        have ha : l[k]?.getD 0 ≤ x := by omega
        have hb : x ≤ l[k]?.getD 0 := by omega
        clear he
        go_wp2
        go_ret
        exact ⟨ret_bool E.out, rfl⟩
      · go_wp2
        go_roundg (n - (k + 1))
        case rel =>
          refine ⟨k + 1, by omega, rfl, by go_num, rfl, hid (fun j hj => ?_)⟩
          by_cases e : j = k
          · subst e; exact he
          · exact hh.out j (by omega)
        case measure => omega
    · obtain rfl : n = k := by omega
      have E := hid (show false = decide (x ∈ l) by
        have : x ∉ l := fun hm => by
          obtain ⟨j, hj, rfl⟩ := List.mem_iff_getElem.1 hm
          exact hh.out j (by have := HL.out; omega) (by simp [hj])
        simp [this])
      go_wp2
      go_ret
      exact ⟨ret_bool E.out, rfl⟩

theorem l_vHas_is (a : Option Addr) (n c : Nat) (x : Int) (l : List Int) (w : World) (h : IntsAt w a n l) (hn : n ≤ 1048576) (b : Bool) (hb : decide (x ∈ l) = b) :
    Calls Try.prog 28 #[.slice a n c, .int .i64 x] w fun e w' => e = .returned (.bool b) ∧ w = w' := by
  subst hb
  exact l_vHas a n c x l w h hn

end Go.Proofs.Ytikjighlnpdgiaa

