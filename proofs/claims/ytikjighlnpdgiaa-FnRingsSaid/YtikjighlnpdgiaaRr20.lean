/-
  Texts of this claim, joined: RingsI.
-/
import Derived.Test.YtikjighlnpdgiaaRr13
import Derived.Test.YtikjighlnpdgiaaRr14
import Derived.Test.YtikjighlnpdgiaaRr15
import Derived.Test.YtikjighlnpdgiaaRr16
import Derived.Test.YtikjighlnpdgiaaRr18
import Derived.Test.YtikjighlnpdgiaaRr19
/-
  RingFlows of the program.
-/
set_option linter.unusedVariables false
set_option linter.unusedSimpArgs false
namespace Go.Proofs.Ytikjighlnpdgiaa
open Go.RowKit

theorem two_of2 {w : World} {b : Nat} {x y : Value} {t : TypeId} (h : w.heap[b]? = some (.cells #[x, y] t (0, 0))) : w.cell? ⟨b, 0, none⟩ = some x ∧ w.cell? ⟨b, 1, none⟩ = some y :=
  ⟨by rw [cell_of_row w _ _ _ _ (0, 0) h]; rfl, by rw [cell_of_row w _ _ _ _ (0, 0) h]; rfl⟩
theorem enters_RF1 : enters 46 := by intro args w; kernel_rfl
theorem i_RF1 (x : Int) (w : World) : Calls Try.prog 46 #[.int .i64 x] w fun e w' => e = .returned (.bool (!decide (x = 0))) ∧ Below w.heap.size w w' := by
  by_cases hx : x = 0
  · subst hx
    go_enter Try.func46, Try.ntmps46
    go_wp2
    go_ret
    exact ⟨ret_bool (by simp), Below.refl _ _⟩
  · have hb : (x != 0) = true := by simpa using hx
    go_enter Try.func46, Try.ntmps46
    go_wp2
    go_ret
    exact ⟨ret_bool (by simp [hx]), Below.refl _ _⟩

set_option maxRecDepth 100000 in
set_option maxHeartbeats 8000000 in
theorem i_RingFlows (N s : Int) (a p : Option Addr) (n c m d : Nat) (l : List Pip) (ds : List Int) (w : World) (h : QAt w a n l) (h' : IntsAt w p m ds) (hn : n ≤ 1048576) (hm : m ≤ 1048576) (R : List Int) (b : Bool) (hR : ringsR N l s ds = (R, b)) :
    Calls Try.prog 9 #[.agg #[.int .i64 N, .slice a n c], .int .i64 s, .slice p m d] w fun e w' => ∃ a' c', e = .returned (.tuple #[.slice a' R.length c', .bool b]) ∧ OwnI w' w.heap.size (.slice a' R.length c') R ∧ Below w.heap.size w w' := by
  have hln := h.1
  have hlm := h'.1
  have H := hid h
  have H' := hid h'
  clear h h'
  cases h12 : (goodNet N l && ringB N l)
  · rw [ringsR_no (fun hx => by rw [hx.1, hx.2.1] at h12; cases h12)] at hR
    cases hR
    obtain ⟨M, rfl⟩ : ∃ M : Int, M = N := ⟨_, rfl⟩
    have HF := hid h12
    clear h12 hln hlm
    go_enter Try.func9, Try.ntmps9
    go_upto_region 1 with fail
    have BA := hid (by go_grown : Below w.heap.size w (w.alloc (.cells #[.int .i64 M, .slice a n c] 31)))
    have N0 := hid (cell_of_row _ _ 0 _ _ (0, 0) (heap_alloc_new w (.cells #[.int .i64 M, .slice a n c] 31)))
    have N1 := hid (cell_of_row _ _ 1 _ _ (0, 0) (heap_alloc_new w (.cells #[.int .i64 M, .slice a n c] 31)))
    have hzA : w.heap.size < (w.alloc (.cells #[.int .i64 M, .slice a n c] 31)).heap.size := by simp
    have n0 := N0.out
    have n1 := N1.out
    simp only [List.getElem?_toArray, List.getElem?_cons_zero, List.getElem?_cons_succ] at n0 n1
    generalize w.alloc (.cells #[.int .i64 M, .slice a n c] 31) = wA at *
    have KA := hid (show ∀ wx, Below wA.heap.size wA wx → (wx.cell? ⟨w.heap.size, 0, none⟩ = some (.int .i64 M) ∧ wx.cell? ⟨w.heap.size, 1, none⟩ = some (.slice a n c)) from fun wx hb => ⟨(hb.cell (p := ⟨w.heap.size, 0, none⟩) hzA).trans n0, (hb.cell (p := ⟨w.heap.size, 1, none⟩) hzA).trans n1⟩)
    go_wp2_with fail
    refine (i_hasRing M _ _ _ l _ (H.out.below BA.out) hn).mono ?_
    rintro e w1 ⟨rfl, hb⟩
    rw [HF.out]
    have HB1 := hid (hb)
    clear n0 n1 hb
    obtain ⟨n0, n1⟩ := KA.out _ HB1.out
    have hz1 : w.heap.size < w1.heap.size := World.block_lt_of_cell? w1 _ n0
    go_wp2
    go_ret2
    exact ⟨_, _, rfl, OwnI.nil _ _, (bstep BA.out HB1.out)⟩
  · obtain ⟨g1, h2⟩ := (Bool.and_eq_true _ _).mp h12
    have hN := (goodNet_get g1).1
    obtain ⟨M, rfl⟩ : ∃ M : Nat, N = M := ⟨N.toNat, by omega⟩
    have HF := hid h12
    clear h12
    cases g2 : inR s 1 M
    · rw [ringsR_no (fun hx => by rw [hx.2.2.1] at g2; cases g2)] at hR
      cases hR
      clear g1 h2
      have H2 := hid g2
      clear g2 hln hlm
      go_enter Try.func9, Try.ntmps9
      go_upto_region 1 with fail
      have BA := hid (by go_grown : Below w.heap.size w (w.alloc (.cells #[.int .i64 M, .slice a n c] 31)))
      have N0 := hid (cell_of_row _ _ 0 _ _ (0, 0) (heap_alloc_new w (.cells #[.int .i64 M, .slice a n c] 31)))
      have N1 := hid (cell_of_row _ _ 1 _ _ (0, 0) (heap_alloc_new w (.cells #[.int .i64 M, .slice a n c] 31)))
      have hzA : w.heap.size < (w.alloc (.cells #[.int .i64 M, .slice a n c] 31)).heap.size := by simp
      have n0 := N0.out
      have n1 := N1.out
      simp only [List.getElem?_toArray, List.getElem?_cons_zero, List.getElem?_cons_succ] at n0 n1
      generalize w.alloc (.cells #[.int .i64 M, .slice a n c] 31) = wA at *
      have KA := hid (show ∀ wx, Below wA.heap.size wA wx → (wx.cell? ⟨w.heap.size, 0, none⟩ = some (.int .i64 M) ∧ wx.cell? ⟨w.heap.size, 1, none⟩ = some (.slice a n c)) from fun wx hb => ⟨(hb.cell (p := ⟨w.heap.size, 0, none⟩) hzA).trans n0, (hb.cell (p := ⟨w.heap.size, 1, none⟩) hzA).trans n1⟩)
      go_wp2_with fail
      refine (i_hasRing M _ _ _ l _ (H.out.below BA.out) hn).mono ?_
      rintro e w1 ⟨rfl, hb⟩
      rw [HF.out]
      have HB1 := hid (hb)
      clear n0 n1 hb
      obtain ⟨n0, n1⟩ := KA.out _ HB1.out
      have hz1 : w.heap.size < w1.heap.size := World.block_lt_of_cell? w1 _ n0
      go_wp2_with fail
      refine (i_has M s _ _ _ _).mono ?_
      rintro e w2 ⟨rfl, hb⟩
      rw [H2.out]
      have HB2 := hid (bstep HB1.out hb)
      clear n0 n1 hb
      obtain ⟨n0, n1⟩ := KA.out _ HB2.out
      have hz2 : w.heap.size < w2.heap.size := World.block_lt_of_cell? w2 _ n0
      go_wp2
      go_ret2
      exact ⟨_, _, rfl, OwnI.nil _ _, (bstep BA.out HB2.out)⟩
    · have H2 := hid g2
      cases h3 : goodDem M ds
      · rw [ringsR_no (fun hx => by rw [hx.2.2.2.1] at h3; cases h3)] at hR
        cases hR
        clear g1 h2 g2
        have H3 := hid h3
        clear h3 hln hlm
        go_enter Try.func9, Try.ntmps9
        go_upto_region 1 with fail
        have BA := hid (by go_grown : Below w.heap.size w (w.alloc (.cells #[.int .i64 M, .slice a n c] 31)))
        have N0 := hid (cell_of_row _ _ 0 _ _ (0, 0) (heap_alloc_new w (.cells #[.int .i64 M, .slice a n c] 31)))
        have N1 := hid (cell_of_row _ _ 1 _ _ (0, 0) (heap_alloc_new w (.cells #[.int .i64 M, .slice a n c] 31)))
        have hzA : w.heap.size < (w.alloc (.cells #[.int .i64 M, .slice a n c] 31)).heap.size := by simp
        have n0 := N0.out
        have n1 := N1.out
        simp only [List.getElem?_toArray, List.getElem?_cons_zero, List.getElem?_cons_succ] at n0 n1
        generalize w.alloc (.cells #[.int .i64 M, .slice a n c] 31) = wA at *
        have KA := hid (show ∀ wx, Below wA.heap.size wA wx → (wx.cell? ⟨w.heap.size, 0, none⟩ = some (.int .i64 M) ∧ wx.cell? ⟨w.heap.size, 1, none⟩ = some (.slice a n c)) from fun wx hb => ⟨(hb.cell (p := ⟨w.heap.size, 0, none⟩) hzA).trans n0, (hb.cell (p := ⟨w.heap.size, 1, none⟩) hzA).trans n1⟩)
        go_wp2_with fail
        refine (i_hasRing M _ _ _ l _ (H.out.below BA.out) hn).mono ?_
        rintro e w1 ⟨rfl, hb⟩
        rw [HF.out]
        have HB1 := hid (hb)
        clear n0 n1 hb
        obtain ⟨n0, n1⟩ := KA.out _ HB1.out
        have hz1 : w.heap.size < w1.heap.size := World.block_lt_of_cell? w1 _ n0
        go_wp2_with fail
        refine (i_has M s _ _ _ _).mono ?_
        rintro e w2 ⟨rfl, hb⟩
        rw [H2.out]
        have HB2 := hid (bstep HB1.out hb)
        clear n0 n1 hb
        obtain ⟨n0, n1⟩ := KA.out _ HB2.out
        have hz2 : w.heap.size < w2.heap.size := World.block_lt_of_cell? w2 _ n0
        go_wp2_with fail
        refine (i_areDemands M _ _ _ _ _ _ ds _ (H'.out.below (bstep BA.out HB2.out)) hm).mono ?_
        rintro e w3 ⟨rfl, hb⟩
        rw [H3.out]
        have HB3 := hid (bstep HB2.out hb)
        clear n0 n1 hb
        obtain ⟨n0, n1⟩ := KA.out _ HB3.out
        have hz3 : w.heap.size < w3.heap.size := World.block_lt_of_cell? w3 _ n0
        go_wp2
        go_ret2
        exact ⟨_, _, rfl, OwnI.nil _ _, (bstep BA.out HB3.out)⟩
      · have H3 := hid h3
        by_cases h4 : ds.sum ≤ 200
        · skip
          have hds := goodDem_iff.1 h3
          have hmM : m = M := by omega
          subst hmM
          obtain ⟨k1, k2, k3⟩ := firstL_ok (ring_on g1 h2)
          have hnM : n = m := by have := ((ringB_iff g1).1 h2).1; omega
          have hn2 : 2 ≤ n := by
            have hp := goodNet_pipe g1 k1
            omega
          have hn10 : n ≤ 10 := by have := (goodNet_get g1).2.1; omega
          have hn0 : 0 < n := by omega
          have hT0 := nonneg_sum hds.2
          obtain ⟨T, hT⟩ : ∃ T : Nat, ds.sum = T := ⟨ds.sum.toNat, by omega⟩
          have hT200 : T ≤ 200 := by omega
          have HT := hid hT
          have HLN := hid hln
          have HG := hid g1
          have HR := hid h2
          have HS := hid (inR_iff.1 g2)
          have HD := hid hds.2
          have HDW := hid (show ∀ x ∈ ds, -1000000000000 ≤ x ∧ x ≤ 1000000000000 from fun x hx => by have := hds.2 x hx; omega)
          have HGE := hid (goodNet_sub (List.eraseIdx_sublist l (firstL l)) g1)
          have HTR := hid (ring_tree g1 h2 k1 k2)
          have HSG := hid (show ∀ i : Nat, i < n → -1 ≤ (loopS l)[i]?.getD 0 ∧ (loopS l)[i]?.getD 0 ≤ 1 from fun i hi => loopS_fit l (by omega))
          have hBl : (ringBase m l s ds).length = n := by rw [ringBase_len (by omega), hln]
          have HBF := hid (show ∀ y ∈ ringBase m l s ds, -8000 ≤ y ∧ y ≤ 8000 from fun y hy => by have := ringBase_in hds.2 hlm hy; omega)
          have HSL := hid (show ∀ x, -401 ≤ x → x ≤ 401 → slow (turnF (loopS l) (ringBase m l s ds) x n) = true from fun x x1 x2 => slow_iff.2 (fun y hy => by
            rw [← hln] at hy
            have := turn_in (s := s) (l := l) (by omega) hds.2 hlm (by omega) ⟨x1, x2⟩ y hy
            omega))
          have HE := hid (show ∀ x, enrg l (turnF (loopS l) (ringBase m l s ds) x n) n = ringE m l s ds x from fun x => by rw [← hln]; rfl)
          have hlen : ∀ x, (turnF (loopS l) (ringBase m l s ds) x n).length = n := fun x => by rw [turnF_len, hBl]
          have hz0 : ∀ j, j < firstL l → (loopS l)[j]?.getD 0 = 0 := fun j hj => (loopS_on g1 h2 (by omega)).2 (k3 j hj)
          have hz1 : ¬ (loopS l)[firstL l]?.getD 0 = 0 := fun e => by
            rw [loopS_on g1 h2 k1, k2] at e
            cases e
          have HTL := hid (tflows_len m (l.eraseIdx (firstL l)) s ds (n - 1))
          have HBB := hid (show ringBase m l s ds = baseF (firstL l) (tflows m (l.eraseIdx (firstL l)) s ds (n - 1)) from by unfold ringBase; rw [hln])
          have HBK := hid (show ∀ k : Nat, -400 ≤ bestT (ringE m l s ds) (-400) k ∧ bestT (ringE m l s ds) (-400) k ≤ -400 + (k : Int) from fun k => ⟨(bestT_is _ _ k).low, (bestT_is _ _ k).high⟩)
          have e0 : ringsR m l s ds = (turnF (loopS l) (ringBase m l s ds) (bestT (ringE m l s ds) (-400) 800) n, true) := by
            rw [ring_best g1 h2 hds.2 hlm h4]
            unfold ringsR ringFs ringX
            rw [if_pos (by unfold canRing; rw [g1, h2, g2, h3]; simpa using h4), Int.toNat_natCast, hln]
          rw [e0] at hR
          cases hR
          rw [hlen]
          obtain ⟨i0, hi0⟩ : ∃ i0, firstL l = i0 := ⟨_, rfl⟩
          rw [hi0] at HGE HTR hz0 hz1 HTL HBB k1
          obtain ⟨TF, hTF⟩ : ∃ TF, tflows m (l.eraseIdx i0) s ds (n - 1) = TF := ⟨_, rfl⟩
          have HTF := hid hTF
          rw [hTF] at HTL HBB
          obtain ⟨BS, hBS⟩ : ∃ BS, ringBase m l s ds = BS := ⟨_, rfl⟩
          rw [hBS] at HBF HSL HE HBB ⊢
          obtain ⟨E, hE⟩ : ∃ E, ringE m l s ds = E := ⟨_, rfl⟩
          rw [hE] at HE HBK ⊢
          have hi0n : i0 < n := by omega
          obtain ⟨q, hq⟩ : ∃ q, n - 1 = q := ⟨_, rfl⟩
          rw [hq] at HTL
          have HQ := hid hq
          have hq0 : 0 < q ∧ q < n ∧ n ≤ q + 1 := by omega
          have HTF2 := hid (show tflows m (l.eraseIdx i0) s ds q = TF from by rw [← hq]; exact hTF)
          have HZ0 := hid hz0
          have HZ1 := hid hz1
          have HNM := hid hnM
          clear hz0 hz1 hq hTF hBS hE hi0 e0 hlen hBl hT hT0 hds k1 k2 k3 h2 h3 h4 g1 g2 hln hlm hnM
          have hs4 : ¬ 200 < (T : Int) := by omega
          have HIX := hid (show indexFn (fun x => !decide (x = 0)) (loopS l) = (i0 : Int) from indexFn_hit _ _ i0 (by rw [loopS_len]; have := HLN.out; omega) (by simpa using HZ1.out) (fun j hj => by simpa using HZ0.out j hj))
          obtain ⟨J, hJ⟩ : ∃ J, J = i0 + 1 := ⟨_, rfl⟩
          have hwJ : IntKind.i64.wrap ((i0 : Int) + 1) = (J : Int) := by rw [IntWalk.i64_in _ (by omega)]; omega
          have HJ := hid hJ
          clear hJ
          go_enter Try.func9, Try.ntmps9
          obtain ⟨M, hMM⟩ : ∃ M, M = m := ⟨_, rfl⟩
          subst hMM
          go_upto_region 1 with fail
          have BA := hid (by go_grown : Below w.heap.size w (w.alloc (.cells #[.int .i64 M, .slice a n c] 31)))
          have N0 := hid (cell_of_row _ _ 0 _ _ (0, 0) (heap_alloc_new w (.cells #[.int .i64 M, .slice a n c] 31)))
          have N1 := hid (cell_of_row _ _ 1 _ _ (0, 0) (heap_alloc_new w (.cells #[.int .i64 M, .slice a n c] 31)))
          have hzA : w.heap.size < (w.alloc (.cells #[.int .i64 M, .slice a n c] 31)).heap.size := by simp
          have n0 := N0.out
          have n1 := N1.out
          simp only [List.getElem?_toArray, List.getElem?_cons_zero, List.getElem?_cons_succ] at n0 n1
          generalize w.alloc (.cells #[.int .i64 M, .slice a n c] 31) = wA at *
          have KA := hid (show ∀ wx, Below wA.heap.size wA wx → (wx.cell? ⟨w.heap.size, 0, none⟩ = some (.int .i64 M) ∧ wx.cell? ⟨w.heap.size, 1, none⟩ = some (.slice a n c)) from fun wx hb => ⟨(hb.cell (p := ⟨w.heap.size, 0, none⟩) hzA).trans n0, (hb.cell (p := ⟨w.heap.size, 1, none⟩) hzA).trans n1⟩)
          go_wp2_with fail
          refine (i_hasRing M _ _ _ l _ (H.out.below BA.out) hn).mono ?_
          rintro e w1 ⟨rfl, hb⟩
          rw [HF.out]
          have HB1 := hid (hb)
          clear n0 n1 hb
          obtain ⟨n0, n1⟩ := KA.out _ HB1.out
          have hz1 : w.heap.size < w1.heap.size := World.block_lt_of_cell? w1 _ n0
          go_wp2_with fail
          refine (i_has M s _ _ _ _).mono ?_
          rintro e w2 ⟨rfl, hb⟩
          rw [H2.out]
          have HB2 := hid (bstep HB1.out hb)
          clear n0 n1 hb
          obtain ⟨n0, n1⟩ := KA.out _ HB2.out
          have hz2 : w.heap.size < w2.heap.size := World.block_lt_of_cell? w2 _ n0
          go_wp2_with fail
          refine (i_areDemands M _ _ _ _ _ _ ds _ (H'.out.below (bstep BA.out HB2.out)) hm).mono ?_
          rintro e w3 ⟨rfl, hb⟩
          rw [H3.out]
          have HB3 := hid (bstep HB2.out hb)
          clear n0 n1 hb
          obtain ⟨n0, n1⟩ := KA.out _ HB3.out
          have hz3 : w.heap.size < w3.heap.size := World.block_lt_of_cell? w3 _ n0
          go_wp2_with fail
          refine (i_sumInts _ _ _ ds _ (H'.out.below (bstep BA.out HB3.out)) (by omega) HDW.out).mono ?_
          rintro e _ ⟨rfl, rfl⟩
          rw [HT.out]
          go_wp2_with fail
          refine (i_loopOf M _ _ _ l _ (H.out.below (bstep BA.out HB3.out)) HG.out HR.out).mono ?_
          rintro e w4 ⟨a4, cl, rfl, ho4, hb⟩
          have HB4 := hid (bstep HB3.out hb)
          clear n0 n1 hb
          obtain ⟨n0, n1⟩ := KA.out _ HB4.out
          have hz4 : w.heap.size < w4.heap.size := World.block_lt_of_cell? w4 _ n0
          obtain ⟨gl, rfl, -, -⟩ := own_some ho4 hn0
          have HL4 := hid (ho4.mono (B' := wA.heap.size) HB3.out.size)
          clear ho4
          go_wp2_with fail
          refine (f_IndexFunc 46 #[] (fun x => !decide (x = 0)) enters_RF1 _ n _ (loopS l) _ HL4.out.at (by omega) (fun x w' _ _ => i_RF1 x w')).mono ?_
          rintro e w5 ⟨rfl, hb⟩
          have hb5X := hid hb
          rw [HIX.out]
          have HB5 := hid (bstep HB4.out hb)
          clear n0 n1 hb
          obtain ⟨n0, n1⟩ := KA.out _ HB5.out
          have hz5 : w.heap.size < w5.heap.size := World.block_lt_of_cell? w5 _ n0
          have HL5 := hid (HL4.out.below hb5X.out)
          go_upto_region 5 with fail
          go_cut [10] (fun s10 wx => ∃ (pt : Nat) (a9 : Option Addr) (c9 : Nat), s10 = .pointer (some ⟨pt, 0, none⟩) ∧ Hid (wA.heap.size ≤ pt ∧ wx.heap[pt]? = some (.cells #[.int .i64 M, .slice a9 q c9] 31 (0, 0)) ∧ OwnQ wx wA.heap.size (.slice a9 q c9) (l.eraseIdx i0) ∧ Below w5.heap.size w5 wx))
          case first =>
            refine wp_region_noPanic ?_
            refine wp_region_held_drew (S := (fun w' => w'.cell? ⟨w.heap.size, 0, none⟩ = some (.int .i64 M) ∧ w'.cell? ⟨w.heap.size, 1, none⟩ = some (.slice a n c))) (by kernel_rfl) (by exact ⟨n0, n1⟩) (fun hHeld => ?_)
            refine wpAnyH_take' (i := 0) (v := ?_) rfl (by kernel_rfl) (by kernel_rfl) (by kernel_rfl) (fun _ _ _ h => h) (Or.inl ⟨by rfl, ?_⟩) (by assumption) ?_
            rotate_left
            · (intro w' hSw; (try dsimp only at hSw); go_simp; all_goals with_reducible rfl)
            try simp only [Act.put, List.setIfInBounds_toArray, List.set_cons_zero, List.set_cons_succ]
            refine wpAnyH_take' (i := 1) (v := ?_) rfl (by kernel_rfl) (by kernel_rfl) (by kernel_rfl) (fun _ _ _ h => h) (Or.inl ⟨by rfl, ?_⟩) (by assumption) ?_
            rotate_left
            · (intro w' hSw; (try dsimp only at hSw); go_simp; all_goals with_reducible rfl)
            try simp only [Act.put, List.setIfInBounds_toArray, List.set_cons_zero, List.set_cons_succ]
            refine wpAnyH_take' (i := 3) (v := ?_) rfl (by kernel_rfl) (by kernel_rfl) (by kernel_rfl) (fun _ _ _ h => h) (Or.inl ⟨by rfl, ?_⟩) (by assumption) ?_
            rotate_left
            · (intro w' hSw; (try dsimp only at hSw); go_simp; all_goals with_reducible rfl)
            try simp only [Act.put, List.setIfInBounds_toArray, List.set_cons_zero, List.set_cons_succ]
            refine wpAnyH_take' (i := 4) (v := ?_) rfl (by kernel_rfl) (by kernel_rfl) (by kernel_rfl) (fun _ _ _ h => h) (Or.inl ⟨by rfl, ?_⟩) (by assumption) ?_
            rotate_left
            · (intro w' hSw; (try dsimp only at hSw); go_simp; all_goals with_reducible rfl)
            try simp only [Act.put, List.setIfInBounds_toArray, List.set_cons_zero, List.set_cons_succ]
            refine wpAnyH_take' (i := 6) (v := ?_) rfl (by kernel_rfl) (by kernel_rfl) (by kernel_rfl) (fun _ _ _ h => h) (Or.inl ⟨by rfl, ?_⟩) (by assumption) ?_
            rotate_left
            · (intro w' hSw; (try dsimp only at hSw); go_simp; all_goals with_reducible rfl)
            try simp only [Act.put, List.setIfInBounds_toArray, List.set_cons_zero, List.set_cons_succ]
            refine wpAnyH_take' (i := 7) (v := ?_) rfl (by kernel_rfl) (by kernel_rfl) (by kernel_rfl) (fun _ _ _ h => h) (Or.inl ⟨by rfl, ?_⟩) (by assumption) ?_
            rotate_left
            · (intro w' hSw; (try dsimp only at hSw); go_simp; all_goals with_reducible rfl)
            try simp only [Act.put, List.setIfInBounds_toArray, List.set_cons_zero, List.set_cons_succ]
            refine wpAnyH_take' (i := 8) (v := ?_) rfl (by kernel_rfl) (by kernel_rfl) (by kernel_rfl) (fun _ _ _ h => h) (Or.inl ⟨by rfl, ?_⟩) (by assumption) ?_
            rotate_left
            · (intro w' hSw; (try dsimp only at hSw); go_simp; all_goals with_reducible rfl)
            try simp only [Act.put, List.setIfInBounds_toArray, List.set_cons_zero, List.set_cons_succ]
            refine wpAnyH_ready (rs := [2, 11]) (by kernel_rfl) (by simp) ?_
            refine allReadyH_cons' rfl (fun Kn hKn => ?_) (allReadyH_cons' rfl (fun Kn hKn => ?_) AllReadyH.nil)
            · skip
              go_simp
              have HW1 := hid (by go_grown : Below w5.heap.size w5 ((w5.alloc (.cells #[] 71))).drew)
              have HV1 := hid (HW1.out)
              have HO1 := hid (show OwnQ ((w5.alloc (.cells #[] 71))).drew w5.heap.size (.slice (some ⟨w5.heap.size, 0, none⟩) 0 0) [] from ((OwnS.lit0' rfl).drew').mono (Nat.le_refl _))
              have HSZ1 := (show w5.heap.size < (((w5.alloc (.cells #[] 71))).drew).heap.size from by simp)
              refine hKn.out _ _ (KA.out _ (bstep HB5.out HV1.out)) (fun hHeldN => ?_)
              clear hKn Kn hHeld
              have hHeld := hHeldN
              clear hHeldN
              try simp only [Act.put, List.setIfInBounds_toArray, List.set_cons_zero, List.set_cons_succ]
              generalize ((w5.alloc (.cells #[] 71))).drew = v1 at *
              refine wpAnyH_ready (rs := [5, 11]) (by kernel_rfl) (by simp) ?_
              refine allReadyH_cons' rfl (fun Kn hKn => ?_) (allReadyH_cons' rfl (fun Kn hKn => ?_) AllReadyH.nil)
              · skip
                refine step_append_q (by rfl) _ _ (by rfl) (w5.heap.size) _ [] (by rfl) HO1.out _ n _ l (by rfl) (H.out.below (bstep BA.out (bstep HB5.out HV1.out))) n (by simp) (by omega) HV1.out.size ?_
                intro a4 c4 v2 h4 g4 b4
                obtain ⟨g5, rfl, hg51, hg52⟩ := ownQ_some h4 hn0
                have HV2 := hid (HV1.out.grown g4 HV1.out.size (fun q hq => (OwnS.lt HO1.out q hq).1))
                have HO2 := hid h4
                clear h4 g4 b4
                refine hKn.out _ _ (KA.out _ (bstep HB5.out HV2.out)) (fun hHeldN => ?_)
                clear hKn Kn hHeld
                have hHeld := hHeldN
                clear hHeldN
                try simp only [Act.put, List.setIfInBounds_toArray, List.set_cons_zero, List.set_cons_succ]
                refine wpAnyH_ready (rs := [9, 11]) (by kernel_rfl) (by simp) ?_
                refine allReadyH_cons' rfl (fun Kn hKn => ?_) (allReadyH_cons' rfl (fun Kn hKn => ?_) AllReadyH.nil)
                · skip
                  go_simp
                  go_at_call 47
                  refine (f_DeletePipe g5 n c4 i0 J _ ([] ++ l) _ HO2.out (by omega) hi0n HJ.out).mono ?_
                  rintro e v3 ⟨rfl, h9, g9⟩
                  rw [List.nil_append, HQ.out] at h9
                  rw [HQ.out]
                  have HV3 := hid (HV2.out.grown g9 HV2.out.size (fun q hq => by cases hq; exact hg51))
                  have HO3 := hid h9
                  clear h9 g9
                  refine hKn.out _ _ (KA.out _ (bstep HB5.out HV3.out)) (fun hHeldN => ?_)
                  clear hKn Kn hHeld
                  have hHeld := hHeldN
                  clear hHeldN
                  try simp only [Act.put, List.setIfInBounds_toArray, List.set_cons_zero, List.set_cons_succ]
                  refine wpAnyH_take' (i := 10) (v := ?_) rfl (by kernel_rfl) (by kernel_rfl) (by kernel_rfl) (fun _ _ _ h => h) (Or.inl ⟨by rfl, ?_⟩) (by assumption) ?_
                  rotate_left
                  · (intro w' hSw; (try dsimp only at hSw); go_simp; all_goals with_reducible rfl)
                  try simp only [Act.put, List.setIfInBounds_toArray, List.set_cons_zero, List.set_cons_succ]
                  refine wpAnyH_ready (rs := [11]) (by kernel_rfl) (by simp) ?_
                  refine allReadyH_cons' rfl (fun Kn hKn => ?_) AllReadyH.nil
                  have hg5z := hg52
                  go_simp
                  have HW4 := hid (by go_grown : Below v3.heap.size v3 (v3.alloc (.cells #[.int .i64 0, .slice none 0 0] 31)))
                  have HV4 := hid (bstep HV3.out HW4.out)
                  have HP4 := hid (show (v3.alloc (.cells #[.int .i64 0, .slice none 0 0] 31)).heap[v3.heap.size]? = some (.cells #[.int .i64 0, .slice none 0 0] 31 (0, 0)) from heap_alloc_new _ _)
                  have HO4 := hid (OwnS.below HO3.out HW4.out)
                  have HSZ4 := (show v3.heap.size < ((v3.alloc (.cells #[.int .i64 0, .slice none 0 0] 31))).heap.size from by simp)
                  refine hKn.out _ _ (KA.out _ (bstep HB5.out HV4.out)) (fun hHeldN => ?_)
                  clear hKn Kn hHeld
                  have hHeld := hHeldN
                  clear hHeldN
                  try simp only [Act.put, List.setIfInBounds_toArray, List.set_cons_zero, List.set_cons_succ]
                  generalize (v3.alloc (.cells #[.int .i64 0, .slice none 0 0] 31)) = v4 at *
                  have hne5 : v3.heap.size ≠ g5 := by have := (OwnS.lt HO3.out g5 rfl).2; omega
                  obtain ⟨y0, y1⟩ := two_of2 HP4.out
                  have f0 := frozen_of_row v4 (v3.heap.size) 0 _ _ HP4.out
                  have f1 := frozen_of_row v4 (v3.heap.size) 1 _ _ HP4.out
                  have hw5 := HB5.out.size
                  have hsv1 := HV1.out.size
                  have hsv2 := HV2.out.size
                  have hsv3 := HV3.out.size
                  have hsv4 := HV4.out.size
                  have hptw : w5.heap.size ≤ v3.heap.size := by first | exact Nat.le_refl _ | omega
                  have hptz : v3.heap.size < v4.heap.size := (Array.getElem?_eq_some_iff.1 HP4.out).1
                  refine wpAnyH_ready (rs := [12]) (by kernel_rfl) (by simp) ?_
                  refine allReadyH_cons' rfl (fun Kn hKn => ?_) AllReadyH.nil
                  go_simp
                  refine hKn.out _ _ (KA.out _ (((bstep HB5.out HV4.out).setCell (by show wA.heap.size ≤ v3.heap.size; omega) _).setCell (by show wA.heap.size ≤ v3.heap.size; omega) _)) (fun hHeldN => ?_)
                  clear hKn Kn hHeld
                  have hHeld := hHeldN
                  clear hHeldN
                  try simp only [Act.put, List.setIfInBounds_toArray, List.set_cons_zero, List.set_cons_succ]
                  refine wpAnyH_done (by kernel_rfl) ?_ _
                  refine NoPanic.normal ?_
                  clear hHeld
                  have e7 := heap_setCell_same _ _ 1 _ _ (.slice (some ⟨g5, 0, none⟩) q c4) (heap_setCell_same _ _ 0 _ _ (.int .i64 M) HP4.out)
                  simp only [List.setIfInBounds_toArray, List.set_cons_zero, List.set_cons_succ] at e7
                  have E7 := hid e7
                  clear e7 y0 y1 f0 f1 n0 n1
                  go_wp2_with fail
                  go_meet
                  exact ⟨_, _, _, rfl, hid ⟨by show wA.heap.size ≤ v3.heap.size; omega, E7.out, OwnS.mono (OwnS.kept (OwnS.kept (HO4.out) (grown_setCell _ _ _ _) (.inr (fun e => hne5 (Option.some.inj e).symm))) (grown_setCell _ _ _ _) (.inr (fun e => hne5 (Option.some.inj e).symm))) HB5.out.size, (HV4.out.setCell hptw _).setCell hptw _⟩⟩
                · skip
                  go_simp
                  have HW3 := hid (by go_grown : Below v2.heap.size v2 (v2.alloc (.cells #[.int .i64 0, .slice none 0 0] 31)))
                  have HV3 := hid (bstep HV2.out HW3.out)
                  have HP3 := hid (show (v2.alloc (.cells #[.int .i64 0, .slice none 0 0] 31)).heap[v2.heap.size]? = some (.cells #[.int .i64 0, .slice none 0 0] 31 (0, 0)) from heap_alloc_new _ _)
                  have HO3 := hid (OwnS.below HO2.out HW3.out)
                  have HSZ3 := (show v2.heap.size < ((v2.alloc (.cells #[.int .i64 0, .slice none 0 0] 31))).heap.size from by simp)
                  refine hKn.out _ _ (KA.out _ (bstep HB5.out HV3.out)) (fun hHeldN => ?_)
                  clear hKn Kn hHeld
                  have hHeld := hHeldN
                  clear hHeldN
                  try simp only [Act.put, List.setIfInBounds_toArray, List.set_cons_zero, List.set_cons_succ]
                  generalize (v2.alloc (.cells #[.int .i64 0, .slice none 0 0] 31)) = v3 at *
                  have hne5 : v2.heap.size ≠ g5 := by omega
                  refine wpAnyH_ready (rs := [9]) (by kernel_rfl) (by simp) ?_
                  refine allReadyH_cons' rfl (fun Kn hKn => ?_) AllReadyH.nil
                  go_simp
                  go_at_call 47
                  refine (f_DeletePipe g5 n c4 i0 J _ ([] ++ l) _ HO3.out (by omega) hi0n HJ.out).mono ?_
                  rintro e v4 ⟨rfl, h9, g9⟩
                  rw [List.nil_append, HQ.out] at h9
                  rw [HQ.out]
                  have HV4 := hid (HV3.out.grown g9 HV3.out.size (fun q hq => by cases hq; exact hg51))
                  have HO4 := hid h9
                  have hptl9 : v2.heap.size < v3.heap.size := (Array.getElem?_eq_some_iff.1 HP3.out).1
                  have HP4 := hid ((g9.block (v2.heap.size) hptl9 (fun e => hne5 (Option.some.inj e))).trans HP3.out)
                  clear h9 g9
                  refine hKn.out _ _ (KA.out _ (bstep HB5.out HV4.out)) (fun hHeldN => ?_)
                  clear hKn Kn hHeld
                  have hHeld := hHeldN
                  clear hHeldN
                  try simp only [Act.put, List.setIfInBounds_toArray, List.set_cons_zero, List.set_cons_succ]
                  refine wpAnyH_take' (i := 10) (v := ?_) rfl (by kernel_rfl) (by kernel_rfl) (by kernel_rfl) (fun _ _ _ h => h) (Or.inl ⟨by rfl, ?_⟩) (by assumption) ?_
                  rotate_left
                  · (intro w' hSw; (try dsimp only at hSw); go_simp; all_goals with_reducible rfl)
                  try simp only [Act.put, List.setIfInBounds_toArray, List.set_cons_zero, List.set_cons_succ]
                  obtain ⟨y0, y1⟩ := two_of2 HP4.out
                  have f0 := frozen_of_row v4 (v2.heap.size) 0 _ _ HP4.out
                  have f1 := frozen_of_row v4 (v2.heap.size) 1 _ _ HP4.out
                  have hw5 := HB5.out.size
                  have hsv1 := HV1.out.size
                  have hsv2 := HV2.out.size
                  have hsv3 := HV3.out.size
                  have hsv4 := HV4.out.size
                  have hptw : w5.heap.size ≤ v2.heap.size := by first | exact Nat.le_refl _ | omega
                  have hptz : v2.heap.size < v4.heap.size := (Array.getElem?_eq_some_iff.1 HP4.out).1
                  refine wpAnyH_ready (rs := [12]) (by kernel_rfl) (by simp) ?_
                  refine allReadyH_cons' rfl (fun Kn hKn => ?_) AllReadyH.nil
                  go_simp
                  refine hKn.out _ _ (KA.out _ (((bstep HB5.out HV4.out).setCell (by show wA.heap.size ≤ v2.heap.size; omega) _).setCell (by show wA.heap.size ≤ v2.heap.size; omega) _)) (fun hHeldN => ?_)
                  clear hKn Kn hHeld
                  have hHeld := hHeldN
                  clear hHeldN
                  try simp only [Act.put, List.setIfInBounds_toArray, List.set_cons_zero, List.set_cons_succ]
                  refine wpAnyH_done (by kernel_rfl) ?_ _
                  refine NoPanic.normal ?_
                  clear hHeld
                  have e7 := heap_setCell_same _ _ 1 _ _ (.slice (some ⟨g5, 0, none⟩) q c4) (heap_setCell_same _ _ 0 _ _ (.int .i64 M) HP4.out)
                  simp only [List.setIfInBounds_toArray, List.set_cons_zero, List.set_cons_succ] at e7
                  have E7 := hid e7
                  clear e7 y0 y1 f0 f1 n0 n1
                  go_wp2_with fail
                  go_meet
                  exact ⟨_, _, _, rfl, hid ⟨by show wA.heap.size ≤ v2.heap.size; omega, E7.out, OwnS.mono (OwnS.kept (OwnS.kept (HO4.out) (grown_setCell _ _ _ _) (.inr (fun e => hne5 (Option.some.inj e).symm))) (grown_setCell _ _ _ _) (.inr (fun e => hne5 (Option.some.inj e).symm))) HB5.out.size, (HV4.out.setCell hptw _).setCell hptw _⟩⟩
              · skip
                go_simp
                have HW2 := hid (by go_grown : Below v1.heap.size v1 (v1.alloc (.cells #[.int .i64 0, .slice none 0 0] 31)))
                have HV2 := hid (bstep HV1.out HW2.out)
                have HP2 := hid (show (v1.alloc (.cells #[.int .i64 0, .slice none 0 0] 31)).heap[v1.heap.size]? = some (.cells #[.int .i64 0, .slice none 0 0] 31 (0, 0)) from heap_alloc_new _ _)
                have HO2 := hid (OwnS.below HO1.out HW2.out)
                have HSZ2 := (show v1.heap.size < ((v1.alloc (.cells #[.int .i64 0, .slice none 0 0] 31))).heap.size from by simp)
                refine hKn.out _ _ (KA.out _ (bstep HB5.out HV2.out)) (fun hHeldN => ?_)
                clear hKn Kn hHeld
                have hHeld := hHeldN
                clear hHeldN
                try simp only [Act.put, List.setIfInBounds_toArray, List.set_cons_zero, List.set_cons_succ]
                generalize (v1.alloc (.cells #[.int .i64 0, .slice none 0 0] 31)) = v2 at *
                refine wpAnyH_ready (rs := [5]) (by kernel_rfl) (by simp) ?_
                refine allReadyH_cons' rfl (fun Kn hKn => ?_) AllReadyH.nil
                refine step_append_q (by rfl) _ _ (by rfl) (w5.heap.size) _ [] (by rfl) HO2.out _ n _ l (by rfl) (H.out.below (bstep BA.out (bstep HB5.out HV2.out))) n (by simp) (by omega) HV2.out.size ?_
                intro a4 c4 v3 h4 g4 b4
                obtain ⟨g5, rfl, hg51, hg52⟩ := ownQ_some h4 hn0
                have HV3 := hid (HV2.out.grown g4 HV2.out.size (fun q hq => (OwnS.lt HO2.out q hq).1))
                have HO3 := hid h4
                have hne0 : v1.heap.size ≠ w5.heap.size := by omega
                have hptl : v1.heap.size < v2.heap.size := (Array.getElem?_eq_some_iff.1 HP2.out).1
                have HP3 := hid ((g4.block (v1.heap.size) hptl (fun e => hne0 (Option.some.inj e))).trans HP2.out)
                have hne5 : v1.heap.size ≠ g5 := by
                  rcases b4 with b4 | b4
                  · have := Option.some.inj b4; dsimp only at this; omega
                  · have := Option.some.inj b4; dsimp only at this; omega
                clear h4 g4 b4
                refine hKn.out _ _ (KA.out _ (bstep HB5.out HV3.out)) (fun hHeldN => ?_)
                clear hKn Kn hHeld
                have hHeld := hHeldN
                clear hHeldN
                try simp only [Act.put, List.setIfInBounds_toArray, List.set_cons_zero, List.set_cons_succ]
                refine wpAnyH_ready (rs := [9]) (by kernel_rfl) (by simp) ?_
                refine allReadyH_cons' rfl (fun Kn hKn => ?_) AllReadyH.nil
                go_simp
                go_at_call 47
                refine (f_DeletePipe g5 n c4 i0 J _ ([] ++ l) _ HO3.out (by omega) hi0n HJ.out).mono ?_
                rintro e v4 ⟨rfl, h9, g9⟩
                rw [List.nil_append, HQ.out] at h9
                rw [HQ.out]
                have HV4 := hid (HV3.out.grown g9 HV3.out.size (fun q hq => by cases hq; exact hg51))
                have HO4 := hid h9
                have hptl9 : v1.heap.size < v3.heap.size := (Array.getElem?_eq_some_iff.1 HP3.out).1
                have HP4 := hid ((g9.block (v1.heap.size) hptl9 (fun e => hne5 (Option.some.inj e))).trans HP3.out)
                clear h9 g9
                refine hKn.out _ _ (KA.out _ (bstep HB5.out HV4.out)) (fun hHeldN => ?_)
                clear hKn Kn hHeld
                have hHeld := hHeldN
                clear hHeldN
                try simp only [Act.put, List.setIfInBounds_toArray, List.set_cons_zero, List.set_cons_succ]
                refine wpAnyH_take' (i := 10) (v := ?_) rfl (by kernel_rfl) (by kernel_rfl) (by kernel_rfl) (fun _ _ _ h => h) (Or.inl ⟨by rfl, ?_⟩) (by assumption) ?_
                rotate_left
                · (intro w' hSw; (try dsimp only at hSw); go_simp; all_goals with_reducible rfl)
                try simp only [Act.put, List.setIfInBounds_toArray, List.set_cons_zero, List.set_cons_succ]
                obtain ⟨y0, y1⟩ := two_of2 HP4.out
                have f0 := frozen_of_row v4 (v1.heap.size) 0 _ _ HP4.out
                have f1 := frozen_of_row v4 (v1.heap.size) 1 _ _ HP4.out
                have hw5 := HB5.out.size
                have hsv1 := HV1.out.size
                have hsv2 := HV2.out.size
                have hsv3 := HV3.out.size
                have hsv4 := HV4.out.size
                have hptw : w5.heap.size ≤ v1.heap.size := by first | exact Nat.le_refl _ | omega
                have hptz : v1.heap.size < v4.heap.size := (Array.getElem?_eq_some_iff.1 HP4.out).1
                refine wpAnyH_ready (rs := [12]) (by kernel_rfl) (by simp) ?_
                refine allReadyH_cons' rfl (fun Kn hKn => ?_) AllReadyH.nil
                go_simp
                refine hKn.out _ _ (KA.out _ (((bstep HB5.out HV4.out).setCell (by show wA.heap.size ≤ v1.heap.size; omega) _).setCell (by show wA.heap.size ≤ v1.heap.size; omega) _)) (fun hHeldN => ?_)
                clear hKn Kn hHeld
                have hHeld := hHeldN
                clear hHeldN
                try simp only [Act.put, List.setIfInBounds_toArray, List.set_cons_zero, List.set_cons_succ]
                refine wpAnyH_done (by kernel_rfl) ?_ _
                refine NoPanic.normal ?_
                clear hHeld
                have e7 := heap_setCell_same _ _ 1 _ _ (.slice (some ⟨g5, 0, none⟩) q c4) (heap_setCell_same _ _ 0 _ _ (.int .i64 M) HP4.out)
                simp only [List.setIfInBounds_toArray, List.set_cons_zero, List.set_cons_succ] at e7
                have E7 := hid e7
                clear e7 y0 y1 f0 f1 n0 n1
                go_wp2_with fail
                go_meet
                exact ⟨_, _, _, rfl, hid ⟨by show wA.heap.size ≤ v1.heap.size; omega, E7.out, OwnS.mono (OwnS.kept (OwnS.kept (HO4.out) (grown_setCell _ _ _ _) (.inr (fun e => hne5 (Option.some.inj e).symm))) (grown_setCell _ _ _ _) (.inr (fun e => hne5 (Option.some.inj e).symm))) HB5.out.size, (HV4.out.setCell hptw _).setCell hptw _⟩⟩
            · skip
              go_simp
              have HW1 := hid (by go_grown : Below w5.heap.size w5 ((w5.alloc (.cells #[.int .i64 0, .slice none 0 0] 31))).drew)
              have HV1 := hid (HW1.out)
              have HP1 := hid (show ((w5.alloc (.cells #[.int .i64 0, .slice none 0 0] 31))).drew.heap[w5.heap.size]? = some (.cells #[.int .i64 0, .slice none 0 0] 31 (0, 0)) from heap_alloc_new _ _)
              have HSZ1 := (show w5.heap.size < (((w5.alloc (.cells #[.int .i64 0, .slice none 0 0] 31))).drew).heap.size from by simp)
              refine hKn.out _ _ (KA.out _ (bstep HB5.out HV1.out)) (fun hHeldN => ?_)
              clear hKn Kn hHeld
              have hHeld := hHeldN
              clear hHeldN
              try simp only [Act.put, List.setIfInBounds_toArray, List.set_cons_zero, List.set_cons_succ]
              generalize ((w5.alloc (.cells #[.int .i64 0, .slice none 0 0] 31))).drew = v1 at *
              refine wpAnyH_ready (rs := [2]) (by kernel_rfl) (by simp) ?_
              refine allReadyH_cons' rfl (fun Kn hKn => ?_) AllReadyH.nil
              go_simp
              have HW2 := hid (by go_grown : Below v1.heap.size v1 (v1.alloc (.cells #[] 71)))
              have HV2 := hid (bstep HV1.out HW2.out)
              have HO2 := hid (show OwnQ (v1.alloc (.cells #[] 71)) w5.heap.size (.slice (some ⟨v1.heap.size, 0, none⟩) 0 0) [] from (OwnS.lit0' rfl).mono (HV1.out.size))
              have HP2 := hid ((HW2.out.block (w5.heap.size) ((Array.getElem?_eq_some_iff.1 HP1.out).1)).trans HP1.out)
              have HSZ2 := (show v1.heap.size < ((v1.alloc (.cells #[] 71))).heap.size from by simp)
              refine hKn.out _ _ (KA.out _ (bstep HB5.out HV2.out)) (fun hHeldN => ?_)
              clear hKn Kn hHeld
              have hHeld := hHeldN
              clear hHeldN
              try simp only [Act.put, List.setIfInBounds_toArray, List.set_cons_zero, List.set_cons_succ]
              generalize (v1.alloc (.cells #[] 71)) = v2 at *
              refine wpAnyH_ready (rs := [5]) (by kernel_rfl) (by simp) ?_
              refine allReadyH_cons' rfl (fun Kn hKn => ?_) AllReadyH.nil
              refine step_append_q (by rfl) _ _ (by rfl) (w5.heap.size) _ [] (by rfl) HO2.out _ n _ l (by rfl) (H.out.below (bstep BA.out (bstep HB5.out HV2.out))) n (by simp) (by omega) HV2.out.size ?_
              intro a4 c4 v3 h4 g4 b4
              obtain ⟨g5, rfl, hg51, hg52⟩ := ownQ_some h4 hn0
              have HV3 := hid (HV2.out.grown g4 HV2.out.size (fun q hq => (OwnS.lt HO2.out q hq).1))
              have HO3 := hid h4
              have hne0 : w5.heap.size ≠ v1.heap.size := by omega
              have hptl : w5.heap.size < v2.heap.size := (Array.getElem?_eq_some_iff.1 HP2.out).1
              have HP3 := hid ((g4.block (w5.heap.size) hptl (fun e => hne0 (Option.some.inj e))).trans HP2.out)
              have hne5 : w5.heap.size ≠ g5 := by
                rcases b4 with b4 | b4
                · have := Option.some.inj b4; dsimp only at this; omega
                · have := Option.some.inj b4; dsimp only at this; omega
              clear h4 g4 b4
              refine hKn.out _ _ (KA.out _ (bstep HB5.out HV3.out)) (fun hHeldN => ?_)
              clear hKn Kn hHeld
              have hHeld := hHeldN
              clear hHeldN
              try simp only [Act.put, List.setIfInBounds_toArray, List.set_cons_zero, List.set_cons_succ]
              refine wpAnyH_ready (rs := [9]) (by kernel_rfl) (by simp) ?_
              refine allReadyH_cons' rfl (fun Kn hKn => ?_) AllReadyH.nil
              go_simp
              go_at_call 47
              refine (f_DeletePipe g5 n c4 i0 J _ ([] ++ l) _ HO3.out (by omega) hi0n HJ.out).mono ?_
              rintro e v4 ⟨rfl, h9, g9⟩
              rw [List.nil_append, HQ.out] at h9
              rw [HQ.out]
              have HV4 := hid (HV3.out.grown g9 HV3.out.size (fun q hq => by cases hq; exact hg51))
              have HO4 := hid h9
              have hptl9 : w5.heap.size < v3.heap.size := (Array.getElem?_eq_some_iff.1 HP3.out).1
              have HP4 := hid ((g9.block (w5.heap.size) hptl9 (fun e => hne5 (Option.some.inj e))).trans HP3.out)
              clear h9 g9
              refine hKn.out _ _ (KA.out _ (bstep HB5.out HV4.out)) (fun hHeldN => ?_)
              clear hKn Kn hHeld
              have hHeld := hHeldN
              clear hHeldN
              try simp only [Act.put, List.setIfInBounds_toArray, List.set_cons_zero, List.set_cons_succ]
              refine wpAnyH_take' (i := 10) (v := ?_) rfl (by kernel_rfl) (by kernel_rfl) (by kernel_rfl) (fun _ _ _ h => h) (Or.inl ⟨by rfl, ?_⟩) (by assumption) ?_
              rotate_left
              · (intro w' hSw; (try dsimp only at hSw); go_simp; all_goals with_reducible rfl)
              try simp only [Act.put, List.setIfInBounds_toArray, List.set_cons_zero, List.set_cons_succ]
              obtain ⟨y0, y1⟩ := two_of2 HP4.out
              have f0 := frozen_of_row v4 (w5.heap.size) 0 _ _ HP4.out
              have f1 := frozen_of_row v4 (w5.heap.size) 1 _ _ HP4.out
              have hw5 := HB5.out.size
              have hsv1 := HV1.out.size
              have hsv2 := HV2.out.size
              have hsv3 := HV3.out.size
              have hsv4 := HV4.out.size
              have hptw : w5.heap.size ≤ w5.heap.size := by first | exact Nat.le_refl _ | omega
              have hptz : w5.heap.size < v4.heap.size := (Array.getElem?_eq_some_iff.1 HP4.out).1
              refine wpAnyH_ready (rs := [12]) (by kernel_rfl) (by simp) ?_
              refine allReadyH_cons' rfl (fun Kn hKn => ?_) AllReadyH.nil
              go_simp
              refine hKn.out _ _ (KA.out _ (((bstep HB5.out HV4.out).setCell (by show wA.heap.size ≤ w5.heap.size; omega) _).setCell (by show wA.heap.size ≤ w5.heap.size; omega) _)) (fun hHeldN => ?_)
              clear hKn Kn hHeld
              have hHeld := hHeldN
              clear hHeldN
              try simp only [Act.put, List.setIfInBounds_toArray, List.set_cons_zero, List.set_cons_succ]
              refine wpAnyH_done (by kernel_rfl) ?_ _
              refine NoPanic.normal ?_
              clear hHeld
              have e7 := heap_setCell_same _ _ 1 _ _ (.slice (some ⟨g5, 0, none⟩) q c4) (heap_setCell_same _ _ 0 _ _ (.int .i64 M) HP4.out)
              simp only [List.setIfInBounds_toArray, List.set_cons_zero, List.set_cons_succ] at e7
              have E7 := hid e7
              clear e7 y0 y1 f0 f1 n0 n1
              go_wp2_with fail
              go_meet
              exact ⟨_, _, _, rfl, hid ⟨by show wA.heap.size ≤ w5.heap.size; omega, E7.out, OwnS.mono (OwnS.kept (OwnS.kept (HO4.out) (grown_setCell _ _ _ _) (.inr (fun e => hne5 (Option.some.inj e).symm))) (grown_setCell _ _ _ _) (.inr (fun e => hne5 (Option.some.inj e).symm))) HB5.out.size, (HV4.out.setCell hptw _).setCell hptw _⟩⟩
          case rest =>
            obtain ⟨pt, a9, c9, rfl, hcu⟩ := hcut
            obtain ⟨w6, rfl⟩ : ∃ W, W = wc := ⟨_, rfl⟩
            have HB6 := hid (bstep HB5.out hcu.out.2.2.2)
            have HL6 := hid (HL5.out.below hcu.out.2.2.2)
            have HR6 := hid hcu.out.2.2.1
            obtain ⟨t0, t1⟩ := two_of2 hcu.out.2.1
            have hzt : pt < w6.heap.size := World.block_lt_of_cell? w6 _ t0
            have hpt := hcu.out.1
            clear n0 n1 hcu
            go_wp2_with fail
            refine (i_treeFlows M s _ _ q _ _ (l.eraseIdx i0) ds _ (OwnS.at qf_len HR6.out) (H'.out.below (bstep BA.out HB6.out)) HGE.out HS.out HD.out).mono ?_
            rintro e w7 ⟨a7, c7, rfl, ho7, hb7⟩
            rw [HTF2.out] at ho7
            obtain ⟨gt, rfl, hgt1, hgt2⟩ := own_some ho7 hq0.1
            have hglt : ¬ gl = gt := by have := (HL6.out.lt gl rfl).2; omega
            have HT7 := hid (ho7.mono (B' := wA.heap.size) HB6.out.size)
            have HB7 := hid (bstep HB6.out hb7)
            have HL7 := hid (HL6.out.below hb7)
            clear ho7 hb7 t0 t1 hzt
            go_wp2_with fail
            refine (f_Insert gt q _ i0 w7.heap.size 1 wA.heap.size 0 TF _ (HT7.out.alloc _) (by omega) hq0.1 (by omega) (by have := HB7.out.size; simp; omega) (heap_alloc_new _ _) (by omega)).mono ?_
            rintro e w8 ⟨gb, cb, rfl, ho8, hg8⟩
            have hq1 : q + 1 = n := by omega
            rw [hq1] at ho8 ⊢
            have HBS := hid (show OwnI w8 wA.heap.size (.slice (some ⟨gb, 0, none⟩) n cb) BS from by rw [HBB.out]; exact ho8)
            have hgr8 : w7.grownBy w8 (some gt) := grownBy_trans (grown_of_below (by go_grown) _) hg8
            have hb8 : Below wA.heap.size wA w8 := HB7.out.grown hgr8 HB7.out.size (fun k e => by cases e; have := (HT7.out.lt gt rfl).1; omega)
            have HB8 := hid hb8
            have HLP := hid (HL7.out.kept hgr8 (.inr (by simpa [Value.ownBlock] using hglt)))
            clear ho8 hg8 hgr8 hb8
            obtain ⟨n0, n1⟩ := KA.out _ HB8.out
            have hz8 : w.heap.size < w8.heap.size := World.block_lt_of_cell? w8 _ n0
            go_wp2_with fail
            refine (i_turnFlows _ _ _ _ _ (loopS l) BS (-400) _ HLP.out.at HBS.out.at hn10 hn0 HSG.out HBF.out (by omega)).mono ?_
            rintro e w9 ⟨a8, c8, rfl, ho8, hb⟩
            have HBEST := hid (show OwnI w9 wA.heap.size (.slice a8 n c8) (turnF (loopS l) BS (bestT E (-400) 0) n) from ho8.mono HB8.out.size)
            have HB9 := hid (bstep HB8.out hb)
            have HLP9 := hid (HLP.out.below hb)
            have HBS9 := hid (HBS.out.below hb)
            clear HBS HLP ho8 hb
            have HBS := HBS9
            have HLP := HLP9
            clear n0 n1
            obtain ⟨n0, n1⟩ := KA.out _ HB9.out
            have hz9 : w.heap.size < w9.heap.size := World.block_lt_of_cell? w9 _ n0
            go_wp2
            go_loopg [12, 13] (800) (fun gm best x wr => ∃ (k : Nat) (a1 : Option Addr) (c1 : Nat), k ≤ 800 ∧ gm = 800 - k ∧ x = .int .i64 ((-400 : Int) + ((k : Int) + 1)) ∧ best = .slice a1 n c1 ∧ Hid (OwnI wr wA.heap.size (.slice a1 n c1) (turnF (loopS l) BS (bestT E ((-400 : Int)) k) n) ∧ Below wA.heap.size wA wr ∧ OwnI wr wA.heap.size (.slice (some ⟨gl, 0, none⟩) n cl) (loopS l) ∧ OwnI wr wA.heap.size (.slice (some ⟨gb, 0, none⟩) n cb) BS))
            case atStart => exact ⟨0, _, _, Nat.zero_le _, rfl, by show Value.int _ _ = Value.int _ _; congr 1, rfl, hid ⟨HBEST.out, HB9.out, HLP.out, HBS.out⟩⟩
            case round =>
              obtain ⟨k, a1, c1, hk, rfl, rfl, rfl, hh⟩ := hrel
              clear n0 n1
              obtain ⟨n0, n1⟩ := KA.out _ hh.out.2.1
              have hzr : w.heap.size < wr.heap.size := World.block_lt_of_cell? wr _ n0
              obtain ⟨X, hX⟩ : ∃ X, (-400 : Int) + ((k : Int) + 1) = X := ⟨_, rfl⟩
              rw [hX]
              have HX := hid hX
              have hbk := HBK.out k
              obtain ⟨bk, hbe⟩ : ∃ bk, bestT E ((-400 : Int)) k = bk := ⟨_, rfl⟩
              have HBE := hid hbe
              rw [hbe] at hh hbk
              have hX1 : (-400 : Int) + 1 ≤ X ∧ X ≤ (-400 : Int) + (800 : Int) + 1 := by omega
              have hwX : IntKind.i64.wrap (X + 1) = X + 1 := IntWalk.i64_in _ (by omega)
              by_cases hlt : k < 800
              · have hXle : X ≤ (400 : Int) := by omega
                clear hX hbe
                go_wp2_with fail
                refine (i_turnFlows _ _ _ _ _ (loopS l) BS X _ hh.out.2.2.1.at hh.out.2.2.2.at hn10 hn0 HSG.out HBF.out (by omega)).mono ?_
                rintro e v1 ⟨a11, c11, rfl, ho11, hb11⟩
                have HN := hid (ho11.mono (B' := wA.heap.size) hh.out.2.1.size)
                have HV := hid (show OwnI v1 wA.heap.size (.slice a1 n c1) (turnF (loopS l) BS bk n) ∧ Below wA.heap.size wA v1 ∧ OwnI v1 wA.heap.size (.slice (some ⟨gl, 0, none⟩) n cl) (loopS l) ∧ OwnI v1 wA.heap.size (.slice (some ⟨gb, 0, none⟩) n cb) BS from ⟨hh.out.1.below hb11, bstep hh.out.2.1 hb11, hh.out.2.2.1.below hb11, hh.out.2.2.2.below hb11⟩)
                clear n0 n1 ho11 hb11 hzr
                obtain ⟨n0, n1⟩ := KA.out _ HV.out.2.1
                have hzv : w.heap.size < v1.heap.size := World.block_lt_of_cell? v1 _ n0
                by_cases hc9 : E X < E bk
                · have EB := hid (show bestT E ((-400 : Int)) (k + 1) = X from by rw [← HX.out]; exact bestT_yes (by rw [HX.out, HBE.out]; exact hc9))
                  go_upto_region 12 with fail
                  refine wp_region_noPanic ?_
                  refine wp_region_held_drew (S := (fun w' => w'.cell? ⟨w.heap.size, 0, none⟩ = some (.int .i64 M) ∧ w'.cell? ⟨w.heap.size, 1, none⟩ = some (.slice a n c))) (by kernel_rfl) (by exact ⟨n0, n1⟩) (fun hHeld => ?_)
                  refine wpAnyH_take' (i := 0) (v := ?_) rfl (by kernel_rfl) (by kernel_rfl) (by kernel_rfl) (fun _ _ _ h => h) (Or.inl ⟨by rfl, ?_⟩) (by assumption) ?_
                  rotate_left
                  · (intro w' hSw; (try dsimp only at hSw); go_simp; all_goals with_reducible rfl)
                  try simp only [Act.put, List.setIfInBounds_toArray, List.set_cons_zero, List.set_cons_succ]
                  refine wpAnyH_take' (i := 1) (v := ?_) rfl (by kernel_rfl) (by kernel_rfl) (by kernel_rfl) (fun _ _ _ h => h) (Or.inl ⟨by rfl, ?_⟩) (by assumption) ?_
                  rotate_left
                  · (intro w' hSw; (try dsimp only at hSw); go_simp; all_goals with_reducible rfl)
                  try simp only [Act.put, List.setIfInBounds_toArray, List.set_cons_zero, List.set_cons_succ]
                  refine wpAnyH_take' (i := 3) (v := ?_) rfl (by kernel_rfl) (by kernel_rfl) (by kernel_rfl) (fun _ _ _ h => h) (Or.inl ⟨by rfl, ?_⟩) (by assumption) ?_
                  rotate_left
                  · (intro w' hSw; (try dsimp only at hSw); go_simp; all_goals with_reducible rfl)
                  try simp only [Act.put, List.setIfInBounds_toArray, List.set_cons_zero, List.set_cons_succ]
                  refine wpAnyH_take' (i := 4) (v := ?_) rfl (by kernel_rfl) (by kernel_rfl) (by kernel_rfl) (fun _ _ _ h => h) (Or.inl ⟨by rfl, ?_⟩) (by assumption) ?_
                  rotate_left
                  · (intro w' hSw; (try dsimp only at hSw); go_simp; all_goals with_reducible rfl)
                  try simp only [Act.put, List.setIfInBounds_toArray, List.set_cons_zero, List.set_cons_succ]
                  refine wpAnyH_ready (rs := [2]) (by kernel_rfl) (by simp) ?_
                  refine allReadyH_cons' rfl (fun Kn hKn => ?_) AllReadyH.nil
                  go_simp
                  go_at_call 51
                  refine (i_energyOf M _ _ n _ _ l (turnF (loopS l) BS X n) _ (H.out.below (bstep BA.out (bstep HV.out.2.1 (by go_grown)))) (HN.out.below (by go_grown)).at HG.out (HSL.out X (by omega) (by omega))).mono ?_
                  rintro e v2 ⟨rfl, hb12⟩
                  rw [HE.out]
                  have HB12 := hid (bstep (by go_grown) hb12 : Below v1.heap.size v1 v2)
                  clear hb12
                  refine hKn.out _ _ (KA.out _ (bstep HV.out.2.1 HB12.out)) (fun hHeldN => ?_)
                  clear hKn Kn hHeld
                  have hHeld := hHeldN
                  clear hHeldN
                  try simp only [Act.put, List.setIfInBounds_toArray, List.set_cons_zero, List.set_cons_succ]
                  refine wpAnyH_ready (rs := [5]) (by kernel_rfl) (by simp) ?_
                  refine allReadyH_cons' rfl (fun Kn hKn => ?_) AllReadyH.nil
                  go_simp
                  go_at_call 51
                  refine (i_energyOf M _ _ n _ _ l (turnF (loopS l) BS bk n) _ (H.out.below (bstep BA.out (bstep HV.out.2.1 HB12.out))) (HV.out.1.below HB12.out).at HG.out (HSL.out bk (by omega) (by omega))).mono ?_
                  rintro e v3 ⟨rfl, hb13⟩
                  rw [HE.out]
                  have HB13 := hid (bstep HB12.out hb13 : Below v1.heap.size v1 v3)
                  clear hb13
                  refine hKn.out _ _ (KA.out _ (bstep HV.out.2.1 HB13.out)) (fun hHeldN => ?_)
                  clear hKn Kn hHeld
                  have hHeld := hHeldN
                  clear hHeldN
                  try simp only [Act.put, List.setIfInBounds_toArray, List.set_cons_zero, List.set_cons_succ]
                  refine wpAnyH_take' (i := 6) (v := ?_) rfl (by kernel_rfl) (by kernel_rfl) (by kernel_rfl) (fun _ _ _ h => h) (Or.inl ⟨by rfl, ?_⟩) (by assumption) ?_
                  rotate_left
                  · (intro w' hSw; (try dsimp only at hSw); go_simp; all_goals with_reducible rfl)
                  try simp only [Act.put, List.setIfInBounds_toArray, List.set_cons_zero, List.set_cons_succ]
                  refine wpAnyH_done (by kernel_rfl) ?_ _
                  refine NoPanic.normal ?_
                  clear hHeld
                  clear n0 n1
                  go_wp2
                  go_roundg (800 - (k + 1))
                  case rel => exact ⟨k + 1, _, _, by omega, rfl, by show Value.int _ _ = Value.int _ _; congr 1; rw [← HX.out]; omega, rfl, hid ⟨by rw [EB.out]; exact HN.out.below HB13.out, bstep HV.out.2.1 HB13.out, HV.out.2.2.1.below HB13.out, HV.out.2.2.2.below HB13.out⟩⟩
                  case measure => omega
                · have EB := hid (show bestT E ((-400 : Int)) (k + 1) = bk from by rw [← HBE.out]; exact bestT_no (by rw [HX.out, HBE.out]; exact hc9))
                  go_upto_region 12 with fail
                  refine wp_region_noPanic ?_
                  refine wp_region_held_drew (S := (fun w' => w'.cell? ⟨w.heap.size, 0, none⟩ = some (.int .i64 M) ∧ w'.cell? ⟨w.heap.size, 1, none⟩ = some (.slice a n c))) (by kernel_rfl) (by exact ⟨n0, n1⟩) (fun hHeld => ?_)
                  refine wpAnyH_take' (i := 0) (v := ?_) rfl (by kernel_rfl) (by kernel_rfl) (by kernel_rfl) (fun _ _ _ h => h) (Or.inl ⟨by rfl, ?_⟩) (by assumption) ?_
                  rotate_left
                  · (intro w' hSw; (try dsimp only at hSw); go_simp; all_goals with_reducible rfl)
                  try simp only [Act.put, List.setIfInBounds_toArray, List.set_cons_zero, List.set_cons_succ]
                  refine wpAnyH_take' (i := 1) (v := ?_) rfl (by kernel_rfl) (by kernel_rfl) (by kernel_rfl) (fun _ _ _ h => h) (Or.inl ⟨by rfl, ?_⟩) (by assumption) ?_
                  rotate_left
                  · (intro w' hSw; (try dsimp only at hSw); go_simp; all_goals with_reducible rfl)
                  try simp only [Act.put, List.setIfInBounds_toArray, List.set_cons_zero, List.set_cons_succ]
                  refine wpAnyH_take' (i := 3) (v := ?_) rfl (by kernel_rfl) (by kernel_rfl) (by kernel_rfl) (fun _ _ _ h => h) (Or.inl ⟨by rfl, ?_⟩) (by assumption) ?_
                  rotate_left
                  · (intro w' hSw; (try dsimp only at hSw); go_simp; all_goals with_reducible rfl)
                  try simp only [Act.put, List.setIfInBounds_toArray, List.set_cons_zero, List.set_cons_succ]
                  refine wpAnyH_take' (i := 4) (v := ?_) rfl (by kernel_rfl) (by kernel_rfl) (by kernel_rfl) (fun _ _ _ h => h) (Or.inl ⟨by rfl, ?_⟩) (by assumption) ?_
                  rotate_left
                  · (intro w' hSw; (try dsimp only at hSw); go_simp; all_goals with_reducible rfl)
                  try simp only [Act.put, List.setIfInBounds_toArray, List.set_cons_zero, List.set_cons_succ]
                  refine wpAnyH_ready (rs := [2]) (by kernel_rfl) (by simp) ?_
                  refine allReadyH_cons' rfl (fun Kn hKn => ?_) AllReadyH.nil
                  go_simp
                  go_at_call 51
                  refine (i_energyOf M _ _ n _ _ l (turnF (loopS l) BS X n) _ (H.out.below (bstep BA.out (bstep HV.out.2.1 (by go_grown)))) (HN.out.below (by go_grown)).at HG.out (HSL.out X (by omega) (by omega))).mono ?_
                  rintro e v2 ⟨rfl, hb12⟩
                  rw [HE.out]
                  have HB12 := hid (bstep (by go_grown) hb12 : Below v1.heap.size v1 v2)
                  clear hb12
                  refine hKn.out _ _ (KA.out _ (bstep HV.out.2.1 HB12.out)) (fun hHeldN => ?_)
                  clear hKn Kn hHeld
                  have hHeld := hHeldN
                  clear hHeldN
                  try simp only [Act.put, List.setIfInBounds_toArray, List.set_cons_zero, List.set_cons_succ]
                  refine wpAnyH_ready (rs := [5]) (by kernel_rfl) (by simp) ?_
                  refine allReadyH_cons' rfl (fun Kn hKn => ?_) AllReadyH.nil
                  go_simp
                  go_at_call 51
                  refine (i_energyOf M _ _ n _ _ l (turnF (loopS l) BS bk n) _ (H.out.below (bstep BA.out (bstep HV.out.2.1 HB12.out))) (HV.out.1.below HB12.out).at HG.out (HSL.out bk (by omega) (by omega))).mono ?_
                  rintro e v3 ⟨rfl, hb13⟩
                  rw [HE.out]
                  have HB13 := hid (bstep HB12.out hb13 : Below v1.heap.size v1 v3)
                  clear hb13
                  refine hKn.out _ _ (KA.out _ (bstep HV.out.2.1 HB13.out)) (fun hHeldN => ?_)
                  clear hKn Kn hHeld
                  have hHeld := hHeldN
                  clear hHeldN
                  try simp only [Act.put, List.setIfInBounds_toArray, List.set_cons_zero, List.set_cons_succ]
                  refine wpAnyH_take' (i := 6) (v := ?_) rfl (by kernel_rfl) (by kernel_rfl) (by kernel_rfl) (fun _ _ _ h => h) (Or.inl ⟨by rfl, ?_⟩) (by assumption) ?_
                  rotate_left
                  · (intro w' hSw; (try dsimp only at hSw); go_simp; all_goals with_reducible rfl)
                  try simp only [Act.put, List.setIfInBounds_toArray, List.set_cons_zero, List.set_cons_succ]
                  refine wpAnyH_done (by kernel_rfl) ?_ _
                  refine NoPanic.normal ?_
                  clear hHeld
                  clear n0 n1
                  go_wp2
                  go_roundg (800 - (k + 1))
                  case rel => exact ⟨k + 1, _, _, by omega, rfl, by show Value.int _ _ = Value.int _ _; congr 1; rw [← HX.out]; omega, rfl, hid ⟨by rw [EB.out]; exact HV.out.1.below HB13.out, bstep HV.out.2.1 HB13.out, HV.out.2.2.1.below HB13.out, HV.out.2.2.2.below HB13.out⟩⟩
                  case measure => omega
              · have hke : k = 800 := by omega
                have HKE := hid hke
                have hXle : ¬ X ≤ (400 : Int) := by omega
                clear hX hbe hke
                go_wp2
                go_ret2
                refine ⟨_, _, rfl, ?_, bstep BA.out hh.out.2.1⟩
                rw [← HKE.out, HBE.out]
                exact hh.out.1.mono BA.out.size
        · rw [ringsR_no (fun hx => by have := hx.2.2.2.2; omega)] at hR
          cases hR
          have hs4 : 200 < ds.sum := by omega
          have HDW := hid (show ∀ x ∈ ds, -1000000000000 ≤ x ∧ x ≤ 1000000000000 from fun x hx => by have := (goodDem_iff.1 h3).2 x hx; omega)
          clear g1 h2 g2
          clear h3 hln hlm
          go_enter Try.func9, Try.ntmps9
          go_upto_region 1 with fail
          have BA := hid (by go_grown : Below w.heap.size w (w.alloc (.cells #[.int .i64 M, .slice a n c] 31)))
          have N0 := hid (cell_of_row _ _ 0 _ _ (0, 0) (heap_alloc_new w (.cells #[.int .i64 M, .slice a n c] 31)))
          have N1 := hid (cell_of_row _ _ 1 _ _ (0, 0) (heap_alloc_new w (.cells #[.int .i64 M, .slice a n c] 31)))
          have hzA : w.heap.size < (w.alloc (.cells #[.int .i64 M, .slice a n c] 31)).heap.size := by simp
          have n0 := N0.out
          have n1 := N1.out
          simp only [List.getElem?_toArray, List.getElem?_cons_zero, List.getElem?_cons_succ] at n0 n1
          generalize w.alloc (.cells #[.int .i64 M, .slice a n c] 31) = wA at *
          have KA := hid (show ∀ wx, Below wA.heap.size wA wx → (wx.cell? ⟨w.heap.size, 0, none⟩ = some (.int .i64 M) ∧ wx.cell? ⟨w.heap.size, 1, none⟩ = some (.slice a n c)) from fun wx hb => ⟨(hb.cell (p := ⟨w.heap.size, 0, none⟩) hzA).trans n0, (hb.cell (p := ⟨w.heap.size, 1, none⟩) hzA).trans n1⟩)
          go_wp2_with fail
          refine (i_hasRing M _ _ _ l _ (H.out.below BA.out) hn).mono ?_
          rintro e w1 ⟨rfl, hb⟩
          rw [HF.out]
          have HB1 := hid (hb)
          clear n0 n1 hb
          obtain ⟨n0, n1⟩ := KA.out _ HB1.out
          have hz1 : w.heap.size < w1.heap.size := World.block_lt_of_cell? w1 _ n0
          go_wp2_with fail
          refine (i_has M s _ _ _ _).mono ?_
          rintro e w2 ⟨rfl, hb⟩
          rw [H2.out]
          have HB2 := hid (bstep HB1.out hb)
          clear n0 n1 hb
          obtain ⟨n0, n1⟩ := KA.out _ HB2.out
          have hz2 : w.heap.size < w2.heap.size := World.block_lt_of_cell? w2 _ n0
          go_wp2_with fail
          refine (i_areDemands M _ _ _ _ _ _ ds _ (H'.out.below (bstep BA.out HB2.out)) hm).mono ?_
          rintro e w3 ⟨rfl, hb⟩
          rw [H3.out]
          have HB3 := hid (bstep HB2.out hb)
          clear n0 n1 hb
          obtain ⟨n0, n1⟩ := KA.out _ HB3.out
          have hz3 : w.heap.size < w3.heap.size := World.block_lt_of_cell? w3 _ n0
          go_wp2_with fail
          refine (i_sumInts _ _ _ ds _ (H'.out.below (bstep BA.out HB3.out)) (by omega) HDW.out).mono ?_
          rintro e _ ⟨rfl, rfl⟩
          go_wp2
          go_ret2
          exact ⟨_, _, rfl, OwnI.nil _ _, (bstep BA.out HB3.out)⟩

end Go.Proofs.Ytikjighlnpdgiaa

