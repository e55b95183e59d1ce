/-
  Texts of this claim, joined: TurnF, TurnQ, LoopL.
-/
import Derived.Test.YtpmffboojkfpdaaSp13
import Derived.Test.YtpmffboojkfpdaaSp15
import Derived.Test.YtpmffboojkfpdaaSp16
/-
  TurnFlows, in the program and in the reference: the answers.
-/
set_option linter.unusedVariables false
set_option linter.unusedSimpArgs false
namespace Go.Proofs.Ytpmffboojkfpdaa
open Go.RowKit

/-- What TurnFlows returns. -/
noncomputable def turnR (N : Int) (l : List Pip) (fs : List Int) (x : Int) : List Int × Bool := if (goodNet N l && ringB N l) = true ∧ goodFl l.length fs = true ∧ inR x (-8000) 8000 = true ∧ goodFl l.length (turnF (loopS l) fs x l.length) = true then (turnF (loopS l) fs x l.length, true) else ([], false)
theorem turnR_no {N : Int} {l : List Pip} {fs : List Int} {x : Int} (h : (goodNet N l && ringB N l) = false ∨ goodFl l.length fs = false ∨ inR x (-8000) 8000 = false ∨ goodFl l.length (turnF (loopS l) fs x l.length) = false) : turnR N l fs x = ([], false) := by
  unfold turnR
  rw [if_neg]
  rintro ⟨h1, h2, h3, h4⟩
  rcases h with h | h | h | h
  · rw [h1] at h; cases h
  · rw [h2] at h; cases h
  · rw [h3] at h; cases h
  · rw [h4] at h; cases h
theorem turnR_len {N : Int} {l : List Pip} {fs : List Int} {x : Int} {R : List Int} {b : Bool} (h : turnR N l fs x = (R, b)) : R.length ≤ 1000 := by
  unfold turnR at h
  split at h
  · rename_i h1
    cases h
    rw [turnF_len, (goodFl_iff.1 h1.2.1).1]
    have := (goodNet_get ((Bool.and_eq_true _ _).mp h1.1).1).2.1
    omega
  · cases h; simp

set_option maxRecDepth 100000 in
set_option maxHeartbeats 4000000 in
theorem i_TurnFlows (N x : Int) (a b : Option Addr) (n c m d : Nat) (l : List Pip) (fs : List Int) (w : World) (h : QAt w a n l) (h' : IntsAt w b m fs) (hn : n ≤ 1048576) (hm : m ≤ 1048576) (R : List Int) (q : Bool) (hR : turnR N l fs x = (R, q)) :
    Calls Try.prog 61 #[.agg #[.int .i64 N, .slice a n c], .slice b m d, .int .i64 x] w fun e w' => ∃ a' c', e = .returned (.tuple #[.slice a' R.length c', .bool q]) ∧ OwnI w' w.heap.size (.slice a' R.length c') R ∧ Below w.heap.size w w' := by
  have hl := h.1
  have H := hid h
  have H' := hid h'
  clear h h'
  cases h12 : (goodNet N l && ringB N l)
  · rw [turnR_no (.inl h12)] at hR
    cases hR
    obtain ⟨M, rfl⟩ : ∃ M : Int, M = N := ⟨_, rfl⟩
    have HF := hid h12
    clear h12 hl
    go_enter Try.func61, Try.ntmps61
    go_upto_region 1 with fail
    have BA := hid (by go_grown : Below w.heap.size w (w.alloc (.cells #[.int .i64 M, .slice a n c] 69)))
    have N0 := hid (cell_of_row _ _ 0 _ _ (0, 0) (heap_alloc_new w (.cells #[.int .i64 M, .slice a n c] 69)))
    have N1 := hid (cell_of_row _ _ 1 _ _ (0, 0) (heap_alloc_new w (.cells #[.int .i64 M, .slice a n c] 69)))
    have hzA : w.heap.size < (w.alloc (.cells #[.int .i64 M, .slice a n c] 69)).heap.size := by simp
    have n0 := N0.out
    have n1 := N1.out
    simp only [List.getElem?_toArray, List.getElem?_cons_zero, List.getElem?_cons_succ] at n0 n1
    generalize w.alloc (.cells #[.int .i64 M, .slice a n c] 69) = wA at *
    have KA := hid (show ∀ wx, Below wA.heap.size wA wx → (wx.cell? ⟨w.heap.size, 0, none⟩ = some (.int .i64 M) ∧ wx.cell? ⟨w.heap.size, 1, none⟩ = some (.slice a n c)) from fun wx hb => ⟨(hb.cell (p := ⟨w.heap.size, 0, none⟩) hzA).trans n0, (hb.cell (p := ⟨w.heap.size, 1, none⟩) hzA).trans n1⟩)
    go_wp2_with fail
    refine (i_hasRing M _ _ _ l _ (H.out.below BA.out) hn).mono ?_
    rintro e w1 ⟨rfl, hb1⟩
    rw [HF.out]
    have HB1 := hid hb1
    obtain ⟨n0', n1'⟩ := KA.out _ hb1
    have hz1 : w.heap.size < w1.heap.size := World.block_lt_of_cell? w1 _ n0'
    clear n0 n1 hb1
    go_wp2
    go_ret2
    exact ⟨_, _, rfl, OwnI.nil _ _, bstep BA.out HB1.out⟩
  · obtain ⟨h1, h2⟩ := (Bool.and_eq_true _ _).mp h12
    have hN := (goodNet_get h1).1
    obtain ⟨M, rfl⟩ : ∃ M : Nat, N = M := ⟨N.toNat, by omega⟩
    have HF := hid h12
    cases h3 : goodFl n fs
    · rw [turnR_no (.inr (.inl (by rw [hl]; exact h3)))] at hR
      cases hR
      have H3 := hid h3
      clear h1 h2 h12 h3 hl hN
      go_enter Try.func61, Try.ntmps61
      go_upto_region 1 with fail
      have BA := hid (by go_grown : Below w.heap.size w (w.alloc (.cells #[.int .i64 M, .slice a n c] 69)))
      have N0 := hid (cell_of_row _ _ 0 _ _ (0, 0) (heap_alloc_new w (.cells #[.int .i64 M, .slice a n c] 69)))
      have N1 := hid (cell_of_row _ _ 1 _ _ (0, 0) (heap_alloc_new w (.cells #[.int .i64 M, .slice a n c] 69)))
      have hzA : w.heap.size < (w.alloc (.cells #[.int .i64 M, .slice a n c] 69)).heap.size := by simp
      have n0 := N0.out
      have n1 := N1.out
      simp only [List.getElem?_toArray, List.getElem?_cons_zero, List.getElem?_cons_succ] at n0 n1
      generalize w.alloc (.cells #[.int .i64 M, .slice a n c] 69) = wA at *
      have KA := hid (show ∀ wx, Below wA.heap.size wA wx → (wx.cell? ⟨w.heap.size, 0, none⟩ = some (.int .i64 M) ∧ wx.cell? ⟨w.heap.size, 1, none⟩ = some (.slice a n c)) from fun wx hb => ⟨(hb.cell (p := ⟨w.heap.size, 0, none⟩) hzA).trans n0, (hb.cell (p := ⟨w.heap.size, 1, none⟩) hzA).trans n1⟩)
      go_wp2_with fail
      refine (i_hasRing M _ _ _ l _ (H.out.below BA.out) hn).mono ?_
      rintro e w1 ⟨rfl, hb1⟩
      rw [HF.out]
      have HB1 := hid hb1
      obtain ⟨n0', n1'⟩ := KA.out _ hb1
      have hz1 : w.heap.size < w1.heap.size := World.block_lt_of_cell? w1 _ n0'
      clear n0 n1 hb1
      go_wp2_with fail
      refine (i_areFlows _ _ _ n _ _ _ fs _ (H'.out.below (bstep BA.out HB1.out)) hm).mono ?_
      rintro e w3 ⟨rfl, hb3⟩
      rw [H3.out]
      have HB3 := hid (bstep HB1.out hb3)
      go_wp2
      go_ret2
      exact ⟨_, _, rfl, OwnI.nil _ _, bstep BA.out HB3.out⟩
    · have hmn : n = m := by have := (goodFl_iff.1 h3).1; have := H'.out.1; omega
      obtain rfl : n = m := hmn
      have H3 := hid h3
      cases h4 : inR x (-8000) 8000
      · rw [turnR_no (.inr (.inr (.inl h4)))] at hR
        cases hR
        have H4 := hid h4
        clear h1 h2 h12 h3 h4 hl hN
        go_enter Try.func61, Try.ntmps61
        go_upto_region 1 with fail
        have BA := hid (by go_grown : Below w.heap.size w (w.alloc (.cells #[.int .i64 M, .slice a n c] 69)))
        have N0 := hid (cell_of_row _ _ 0 _ _ (0, 0) (heap_alloc_new w (.cells #[.int .i64 M, .slice a n c] 69)))
        have N1 := hid (cell_of_row _ _ 1 _ _ (0, 0) (heap_alloc_new w (.cells #[.int .i64 M, .slice a n c] 69)))
        have hzA : w.heap.size < (w.alloc (.cells #[.int .i64 M, .slice a n c] 69)).heap.size := by simp
        have n0 := N0.out
        have n1 := N1.out
        simp only [List.getElem?_toArray, List.getElem?_cons_zero, List.getElem?_cons_succ] at n0 n1
        generalize w.alloc (.cells #[.int .i64 M, .slice a n c] 69) = wA at *
        have KA := hid (show ∀ wx, Below wA.heap.size wA wx → (wx.cell? ⟨w.heap.size, 0, none⟩ = some (.int .i64 M) ∧ wx.cell? ⟨w.heap.size, 1, none⟩ = some (.slice a n c)) from fun wx hb => ⟨(hb.cell (p := ⟨w.heap.size, 0, none⟩) hzA).trans n0, (hb.cell (p := ⟨w.heap.size, 1, none⟩) hzA).trans n1⟩)
        go_wp2_with fail
        refine (i_hasRing M _ _ _ l _ (H.out.below BA.out) hn).mono ?_
        rintro e w1 ⟨rfl, hb1⟩
        rw [HF.out]
        have HB1 := hid hb1
        obtain ⟨n0', n1'⟩ := KA.out _ hb1
        have hz1 : w.heap.size < w1.heap.size := World.block_lt_of_cell? w1 _ n0'
        clear n0 n1 hb1
        go_wp2_with fail
        refine (i_areFlows _ _ _ n _ _ _ fs _ (H'.out.below (bstep BA.out HB1.out)) hm).mono ?_
        rintro e w3 ⟨rfl, hb3⟩
        rw [H3.out]
        have HB3 := hid (bstep HB1.out hb3)
        go_wp2_with fail
        refine (i_inside _ _ _ _).mono ?_
        rintro e _ ⟨rfl, rfl⟩
        rw [H4.out]
        go_wp2
        go_ret2
        exact ⟨_, _, rfl, OwnI.nil _ _, bstep BA.out HB3.out⟩
      · have H4 := hid h4
        have hx := inR_iff.1 h4
        have HLN := hid hl
        have HFL := hid (goodFl_iff.1 h3)
        have HG := hid h1
        have HR := hid h2
        have hn10 : n ≤ 10 := by have := (goodNet_get h1).2.1; omega
        have hn0 : 0 < n := by have := ((ringB_iff h1).1 h2).1; have := (goodNet_get h1).1; omega
        have HSG := hid (show ∀ i : Nat, i < n → -1 ≤ (loopS l)[i]?.getD 0 ∧ (loopS l)[i]?.getD 0 ≤ 1 from fun i hi => loopS_fit l (by omega))
        cases h5 : goodFl n (turnF (loopS l) fs x n)
        · rw [turnR_no (.inr (.inr (.inr (by rw [hl]; exact h5))))] at hR
          cases hR
          have H5 := hid h5
          clear h1 h2 h12 h3 h4 h5 hl hN
          go_enter Try.func61, Try.ntmps61
          go_upto_region 1 with fail
          have BA := hid (by go_grown : Below w.heap.size w (w.alloc (.cells #[.int .i64 M, .slice a n c] 69)))
          have N0 := hid (cell_of_row _ _ 0 _ _ (0, 0) (heap_alloc_new w (.cells #[.int .i64 M, .slice a n c] 69)))
          have N1 := hid (cell_of_row _ _ 1 _ _ (0, 0) (heap_alloc_new w (.cells #[.int .i64 M, .slice a n c] 69)))
          have hzA : w.heap.size < (w.alloc (.cells #[.int .i64 M, .slice a n c] 69)).heap.size := by simp
          have n0 := N0.out
          have n1 := N1.out
          simp only [List.getElem?_toArray, List.getElem?_cons_zero, List.getElem?_cons_succ] at n0 n1
          generalize w.alloc (.cells #[.int .i64 M, .slice a n c] 69) = wA at *
          have KA := hid (show ∀ wx, Below wA.heap.size wA wx → (wx.cell? ⟨w.heap.size, 0, none⟩ = some (.int .i64 M) ∧ wx.cell? ⟨w.heap.size, 1, none⟩ = some (.slice a n c)) from fun wx hb => ⟨(hb.cell (p := ⟨w.heap.size, 0, none⟩) hzA).trans n0, (hb.cell (p := ⟨w.heap.size, 1, none⟩) hzA).trans n1⟩)
          go_wp2_with fail
          refine (i_hasRing M _ _ _ l _ (H.out.below BA.out) hn).mono ?_
          rintro e w1 ⟨rfl, hb1⟩
          rw [HF.out]
          have HB1 := hid hb1
          obtain ⟨n0', n1'⟩ := KA.out _ hb1
          have hz1 : w.heap.size < w1.heap.size := World.block_lt_of_cell? w1 _ n0'
          clear n0 n1 hb1
          go_wp2_with fail
          refine (i_areFlows _ _ _ n _ _ _ fs _ (H'.out.below (bstep BA.out HB1.out)) hm).mono ?_
          rintro e w3 ⟨rfl, hb3⟩
          rw [H3.out]
          have HB3 := hid (bstep HB1.out hb3)
          go_wp2_with fail
          refine (i_inside _ _ _ _).mono ?_
          rintro e _ ⟨rfl, rfl⟩
          rw [H4.out]
          obtain ⟨k0, k1⟩ := KA.out _ HB3.out
          clear hb3
          go_wp2_with fail
          refine (i_loopOf M _ _ _ l _ (H.out.below (bstep BA.out HB3.out)) HG.out HR.out).mono ?_
          rintro e w4 ⟨a4, c4, rfl, ho4, hb4⟩
          have HB4 := hid (bstep HB3.out hb4)
          have HO4 := hid ho4
          clear k0 k1 ho4 hb4
          go_wp2_with fail
          refine (i_turnFlows _ _ _ _ _ _ fs x _ HO4.out.at (H'.out.below (bstep BA.out HB4.out)) hn10 hn0 HSG.out HFL.out.2 hx).mono ?_
          rintro e w5 ⟨a5, c5, rfl, ho5, hb5⟩
          have HB5 := hid (bstep HB4.out hb5)
          have HO5 := hid ho5
          obtain ⟨k0, k1⟩ := KA.out _ HB5.out
          clear ho5 hb5
          go_wp2_with fail
          refine (i_areFlows _ _ _ n _ _ _ (turnF (loopS l) fs x n) _ HO5.out.at hm).mono ?_
          rintro e w6 ⟨rfl, hb6⟩
          rw [H5.out]
          have HB6 := hid (bstep HB5.out hb6)
          go_wp2
          go_ret2
          exact ⟨_, _, rfl, OwnI.nil _ _, bstep BA.out HB6.out⟩
        · have e0 : turnR M l fs x = (turnF (loopS l) fs x n, true) := by
            unfold turnR
            rw [hl, if_pos ⟨h12, h3, h4, h5⟩]
          rw [e0] at hR
          cases hR
          have H5 := hid h5
          have hlen : (turnF (loopS l) fs x n).length = n := by rw [turnF_len]; exact (goodFl_iff.1 h3).1
          rw [hlen]
          clear h1 h2 h12 h3 h4 h5 hl hN e0
          go_enter Try.func61, Try.ntmps61
          go_upto_region 1 with fail
          have BA := hid (by go_grown : Below w.heap.size w (w.alloc (.cells #[.int .i64 M, .slice a n c] 69)))
          have N0 := hid (cell_of_row _ _ 0 _ _ (0, 0) (heap_alloc_new w (.cells #[.int .i64 M, .slice a n c] 69)))
          have N1 := hid (cell_of_row _ _ 1 _ _ (0, 0) (heap_alloc_new w (.cells #[.int .i64 M, .slice a n c] 69)))
          have hzA : w.heap.size < (w.alloc (.cells #[.int .i64 M, .slice a n c] 69)).heap.size := by simp
          have n0 := N0.out
          have n1 := N1.out
          simp only [List.getElem?_toArray, List.getElem?_cons_zero, List.getElem?_cons_succ] at n0 n1
          generalize w.alloc (.cells #[.int .i64 M, .slice a n c] 69) = wA at *
          have KA := hid (show ∀ wx, Below wA.heap.size wA wx → (wx.cell? ⟨w.heap.size, 0, none⟩ = some (.int .i64 M) ∧ wx.cell? ⟨w.heap.size, 1, none⟩ = some (.slice a n c)) from fun wx hb => ⟨(hb.cell (p := ⟨w.heap.size, 0, none⟩) hzA).trans n0, (hb.cell (p := ⟨w.heap.size, 1, none⟩) hzA).trans n1⟩)
          go_wp2_with fail
          refine (i_hasRing M _ _ _ l _ (H.out.below BA.out) hn).mono ?_
          rintro e w1 ⟨rfl, hb1⟩
          rw [HF.out]
          have HB1 := hid hb1
          obtain ⟨n0', n1'⟩ := KA.out _ hb1
          have hz1 : w.heap.size < w1.heap.size := World.block_lt_of_cell? w1 _ n0'
          clear n0 n1 hb1
          go_wp2_with fail
          refine (i_areFlows _ _ _ n _ _ _ fs _ (H'.out.below (bstep BA.out HB1.out)) hm).mono ?_
          rintro e w3 ⟨rfl, hb3⟩
          rw [H3.out]
          have HB3 := hid (bstep HB1.out hb3)
          go_wp2_with fail
          refine (i_inside _ _ _ _).mono ?_
          rintro e _ ⟨rfl, rfl⟩
          rw [H4.out]
          obtain ⟨k0, k1⟩ := KA.out _ HB3.out
          clear hb3
          go_wp2_with fail
          refine (i_loopOf M _ _ _ l _ (H.out.below (bstep BA.out HB3.out)) HG.out HR.out).mono ?_
          rintro e w4 ⟨a4, c4, rfl, ho4, hb4⟩
          have HB4 := hid (bstep HB3.out hb4)
          have HO4 := hid ho4
          clear k0 k1 ho4 hb4
          go_wp2_with fail
          refine (i_turnFlows _ _ _ _ _ _ fs x _ HO4.out.at (H'.out.below (bstep BA.out HB4.out)) hn10 hn0 HSG.out HFL.out.2 hx).mono ?_
          rintro e w5 ⟨a5, c5, rfl, ho5, hb5⟩
          have HB5 := hid (bstep HB4.out hb5)
          have HO5 := hid ho5
          obtain ⟨k0, k1⟩ := KA.out _ HB5.out
          clear ho5 hb5
          go_wp2_with fail
          refine (i_areFlows _ _ _ n _ _ _ (turnF (loopS l) fs x n) _ HO5.out.at hm).mono ?_
          rintro e w6 ⟨rfl, hb6⟩
          rw [H5.out]
          have HB6 := hid (bstep HB5.out hb6)
          have HO6 := hid ((HO5.out.below hb6).mono (B' := w.heap.size) (Nat.le_trans BA.out.size HB4.out.size))
          go_wp2
          go_ret2
          exact ⟨_, _, rfl, HO6.out, bstep BA.out HB6.out⟩

set_option maxRecDepth 100000 in
set_option maxHeartbeats 4000000 in
theorem s_TurnFlows (N x : Int) (a b : Option Addr) (n c m d : Nat) (l : List Pip) (fs : List Int) (w : World) (h : QAt w a n l) (h' : IntsAt w b m fs) (hn : n ≤ 1048576) (hm : m ≤ 1048576) (hc : n ≤ c) (R : List Int) (q : Bool) (hR : turnR N l fs x = (R, q)) :
    Calls Try.prog 62 #[.agg #[.int .i64 N, .slice a n c], .slice b m d, .int .i64 x] w fun e w' => ∃ a' c', e = .returned (.tuple #[.slice a' R.length c', .bool q]) ∧ OwnI w' w.heap.size (.slice a' R.length c') R ∧ Below w.heap.size w w' := by
  have hl := h.1
  have H := hid h
  have H' := hid h'
  clear h h'
  cases h1 : goodNet N l
  · rw [turnR_no (.inl (by rw [h1]; rfl))] at hR
    cases hR
    obtain ⟨M, rfl⟩ : ∃ M : Int, M = N := ⟨_, rfl⟩
    have HG := hid h1
    clear h1 hl
    go_enter Try.func62, Try.ntmps62
    go_upto_region 1 with fail
    have BA := hid (by go_grown : Below w.heap.size w (w.alloc (.cells #[.int .i64 M, .slice a n c] 69)))
    have N0 := hid (cell_of_row _ _ 0 _ _ (0, 0) (heap_alloc_new w (.cells #[.int .i64 M, .slice a n c] 69)))
    have N1 := hid (cell_of_row _ _ 1 _ _ (0, 0) (heap_alloc_new w (.cells #[.int .i64 M, .slice a n c] 69)))
    have hzA : w.heap.size < (w.alloc (.cells #[.int .i64 M, .slice a n c] 69)).heap.size := by simp
    have n0 := N0.out
    have n1 := N1.out
    simp only [List.getElem?_toArray, List.getElem?_cons_zero, List.getElem?_cons_succ] at n0 n1
    generalize w.alloc (.cells #[.int .i64 M, .slice a n c] 69) = wA at *
    have KA := hid (show ∀ wx, Below wA.heap.size wA wx → (wx.cell? ⟨w.heap.size, 0, none⟩ = some (.int .i64 M) ∧ wx.cell? ⟨w.heap.size, 1, none⟩ = some (.slice a n c)) from fun wx hb => ⟨(hb.cell (p := ⟨w.heap.size, 0, none⟩) hzA).trans n0, (hb.cell (p := ⟨w.heap.size, 1, none⟩) hzA).trans n1⟩)
    go_wp2_with fail
    refine (s_l2Good M _ _ _ l _ (H.out.below BA.out) hn).mono ?_
    rintro e w1 ⟨rfl, hb1⟩
    rw [HG.out]
    have HB1 := hid hb1
    obtain ⟨n0', n1'⟩ := KA.out _ hb1
    have hz1 : w.heap.size < w1.heap.size := World.block_lt_of_cell? w1 _ n0'
    clear n0 n1 hb1
    go_wp2
    go_ret2
    exact ⟨_, _, rfl, (OwnI.lit0 _).mono (bstep BA.out HB1.out).size, bstep (bstep BA.out HB1.out) (by go_grown)⟩
  · have hN := (goodNet_get h1).1
    obtain ⟨M, rfl⟩ : ∃ M : Nat, N = M := ⟨N.toNat, by omega⟩
    have HG := hid h1
    cases h2 : ringB M l
    · rw [turnR_no (.inl (by rw [h1, h2]; rfl))] at hR
      cases hR
      have HR := hid h2
      clear h1 h2 hl hN
      go_enter Try.func62, Try.ntmps62
      go_upto_region 1 with fail
      have BA := hid (by go_grown : Below w.heap.size w (w.alloc (.cells #[.int .i64 M, .slice a n c] 69)))
      have N0 := hid (cell_of_row _ _ 0 _ _ (0, 0) (heap_alloc_new w (.cells #[.int .i64 M, .slice a n c] 69)))
      have N1 := hid (cell_of_row _ _ 1 _ _ (0, 0) (heap_alloc_new w (.cells #[.int .i64 M, .slice a n c] 69)))
      have hzA : w.heap.size < (w.alloc (.cells #[.int .i64 M, .slice a n c] 69)).heap.size := by simp
      have n0 := N0.out
      have n1 := N1.out
      simp only [List.getElem?_toArray, List.getElem?_cons_zero, List.getElem?_cons_succ] at n0 n1
      generalize w.alloc (.cells #[.int .i64 M, .slice a n c] 69) = wA at *
      have KA := hid (show ∀ wx, Below wA.heap.size wA wx → (wx.cell? ⟨w.heap.size, 0, none⟩ = some (.int .i64 M) ∧ wx.cell? ⟨w.heap.size, 1, none⟩ = some (.slice a n c)) from fun wx hb => ⟨(hb.cell (p := ⟨w.heap.size, 0, none⟩) hzA).trans n0, (hb.cell (p := ⟨w.heap.size, 1, none⟩) hzA).trans n1⟩)
      go_wp2_with fail
      refine (s_l2Good M _ _ _ l _ (H.out.below BA.out) hn).mono ?_
      rintro e w1 ⟨rfl, hb1⟩
      rw [HG.out]
      have HB1 := hid hb1
      obtain ⟨n0', n1'⟩ := KA.out _ hb1
      have hz1 : w.heap.size < w1.heap.size := World.block_lt_of_cell? w1 _ n0'
      clear n0 n1 hb1
      go_wp2_with fail
      refine (s_l10Ring M _ _ _ l _ (H.out.below (bstep BA.out HB1.out)) HG.out).mono ?_
      rintro e w2 ⟨rfl, hb2⟩
      rw [HR.out]
      have HB2 := hid (bstep HB1.out hb2)
      obtain ⟨m0, m1⟩ := KA.out _ HB2.out
      have hz2 : w.heap.size < w2.heap.size := World.block_lt_of_cell? w2 _ m0
      clear n0' n1' hb2
      go_wp2
      go_ret2
      exact ⟨_, _, rfl, (OwnI.lit0 _).mono (bstep BA.out HB2.out).size, bstep (bstep BA.out HB2.out) (by go_grown)⟩
    · have HR := hid h2
      have h12 : (goodNet M l && ringB M l) = true := by rw [h1, h2]; rfl
      cases h3 : goodFl n fs
      · rw [turnR_no (.inr (.inl (by rw [hl]; exact h3)))] at hR
        cases hR
        have H3 := hid h3
        clear h1 h2 h12 h3 hl hN
        go_enter Try.func62, Try.ntmps62
        go_upto_region 1 with fail
        have BA := hid (by go_grown : Below w.heap.size w (w.alloc (.cells #[.int .i64 M, .slice a n c] 69)))
        have N0 := hid (cell_of_row _ _ 0 _ _ (0, 0) (heap_alloc_new w (.cells #[.int .i64 M, .slice a n c] 69)))
        have N1 := hid (cell_of_row _ _ 1 _ _ (0, 0) (heap_alloc_new w (.cells #[.int .i64 M, .slice a n c] 69)))
        have hzA : w.heap.size < (w.alloc (.cells #[.int .i64 M, .slice a n c] 69)).heap.size := by simp
        have n0 := N0.out
        have n1 := N1.out
        simp only [List.getElem?_toArray, List.getElem?_cons_zero, List.getElem?_cons_succ] at n0 n1
        generalize w.alloc (.cells #[.int .i64 M, .slice a n c] 69) = wA at *
        have KA := hid (show ∀ wx, Below wA.heap.size wA wx → (wx.cell? ⟨w.heap.size, 0, none⟩ = some (.int .i64 M) ∧ wx.cell? ⟨w.heap.size, 1, none⟩ = some (.slice a n c)) from fun wx hb => ⟨(hb.cell (p := ⟨w.heap.size, 0, none⟩) hzA).trans n0, (hb.cell (p := ⟨w.heap.size, 1, none⟩) hzA).trans n1⟩)
        go_wp2_with fail
        refine (s_l2Good M _ _ _ l _ (H.out.below BA.out) hn).mono ?_
        rintro e w1 ⟨rfl, hb1⟩
        rw [HG.out]
        have HB1 := hid hb1
        obtain ⟨n0', n1'⟩ := KA.out _ hb1
        have hz1 : w.heap.size < w1.heap.size := World.block_lt_of_cell? w1 _ n0'
        clear n0 n1 hb1
        go_wp2_with fail
        refine (s_l10Ring M _ _ _ l _ (H.out.below (bstep BA.out HB1.out)) HG.out).mono ?_
        rintro e w2 ⟨rfl, hb2⟩
        rw [HR.out]
        have HB2 := hid (bstep HB1.out hb2)
        obtain ⟨m0, m1⟩ := KA.out _ HB2.out
        have hz2 : w.heap.size < w2.heap.size := World.block_lt_of_cell? w2 _ m0
        clear n0' n1' hb2
        go_wp2_with fail
        refine (s_l8Flows _ _ _ n _ _ _ fs _ (H'.out.below (bstep BA.out HB2.out)) hm).mono ?_
        rintro e w3 ⟨rfl, hb3⟩
        rw [H3.out]
        have HB3 := hid (bstep HB2.out hb3)
        go_wp2
        go_ret2
        exact ⟨_, _, rfl, (OwnI.lit0 _).mono (bstep BA.out HB3.out).size, bstep (bstep BA.out HB3.out) (by go_grown)⟩
      · have hmn : n = m := by have := (goodFl_iff.1 h3).1; have := H'.out.1; omega
        obtain rfl : n = m := hmn
        have H3 := hid h3
        cases h4 : inR x (-8000) 8000
        · rw [turnR_no (.inr (.inr (.inl h4)))] at hR
          cases hR
          have H4 := hid h4
          clear h1 h2 h12 h3 h4 hl hN
          go_enter Try.func62, Try.ntmps62
          go_upto_region 1 with fail
          have BA := hid (by go_grown : Below w.heap.size w (w.alloc (.cells #[.int .i64 M, .slice a n c] 69)))
          have N0 := hid (cell_of_row _ _ 0 _ _ (0, 0) (heap_alloc_new w (.cells #[.int .i64 M, .slice a n c] 69)))
          have N1 := hid (cell_of_row _ _ 1 _ _ (0, 0) (heap_alloc_new w (.cells #[.int .i64 M, .slice a n c] 69)))
          have hzA : w.heap.size < (w.alloc (.cells #[.int .i64 M, .slice a n c] 69)).heap.size := by simp
          have n0 := N0.out
          have n1 := N1.out
          simp only [List.getElem?_toArray, List.getElem?_cons_zero, List.getElem?_cons_succ] at n0 n1
          generalize w.alloc (.cells #[.int .i64 M, .slice a n c] 69) = wA at *
          have KA := hid (show ∀ wx, Below wA.heap.size wA wx → (wx.cell? ⟨w.heap.size, 0, none⟩ = some (.int .i64 M) ∧ wx.cell? ⟨w.heap.size, 1, none⟩ = some (.slice a n c)) from fun wx hb => ⟨(hb.cell (p := ⟨w.heap.size, 0, none⟩) hzA).trans n0, (hb.cell (p := ⟨w.heap.size, 1, none⟩) hzA).trans n1⟩)
          go_wp2_with fail
          refine (s_l2Good M _ _ _ l _ (H.out.below BA.out) hn).mono ?_
          rintro e w1 ⟨rfl, hb1⟩
          rw [HG.out]
          have HB1 := hid hb1
          obtain ⟨n0', n1'⟩ := KA.out _ hb1
          have hz1 : w.heap.size < w1.heap.size := World.block_lt_of_cell? w1 _ n0'
          clear n0 n1 hb1
          go_wp2_with fail
          refine (s_l10Ring M _ _ _ l _ (H.out.below (bstep BA.out HB1.out)) HG.out).mono ?_
          rintro e w2 ⟨rfl, hb2⟩
          rw [HR.out]
          have HB2 := hid (bstep HB1.out hb2)
          obtain ⟨m0, m1⟩ := KA.out _ HB2.out
          have hz2 : w.heap.size < w2.heap.size := World.block_lt_of_cell? w2 _ m0
          clear n0' n1' hb2
          go_wp2_with fail
          refine (s_l8Flows _ _ _ n _ _ _ fs _ (H'.out.below (bstep BA.out HB2.out)) hm).mono ?_
          rintro e w3 ⟨rfl, hb3⟩
          rw [H3.out]
          have HB3 := hid (bstep HB2.out hb3)
          go_wp2_with fail
          refine (s_l1In _ _ _ _).mono ?_
          rintro e _ ⟨rfl, rfl⟩
          rw [H4.out]
          go_wp2
          go_ret2
          exact ⟨_, _, rfl, (OwnI.lit0 _).mono (bstep BA.out HB3.out).size, bstep (bstep BA.out HB3.out) (by go_grown)⟩
        · have H4 := hid h4
          have hx := inR_iff.1 h4
          have HLN := hid hl
          have HFL := hid (goodFl_iff.1 h3)
          have hn10 : n ≤ 10 := by have := (goodNet_get h1).2.1; omega
          have hn0 : 0 < n := by have := ((ringB_iff h1).1 h2).1; have := (goodNet_get h1).1; omega
          have HSG := hid (show ∀ i : Nat, i < n → -1 ≤ (loopS l)[i]?.getD 0 ∧ (loopS l)[i]?.getD 0 ≤ 1 from fun i hi => loopS_fit l (by omega))
          cases h5 : goodFl n (turnF (loopS l) fs x n)
          · rw [turnR_no (.inr (.inr (.inr (by rw [hl]; exact h5))))] at hR
            cases hR
            have H5 := hid h5
            clear h1 h2 h12 h3 h4 h5 hl hN
            go_enter Try.func62, Try.ntmps62
            go_upto_region 1 with fail
            have BA := hid (by go_grown : Below w.heap.size w (w.alloc (.cells #[.int .i64 M, .slice a n c] 69)))
            have N0 := hid (cell_of_row _ _ 0 _ _ (0, 0) (heap_alloc_new w (.cells #[.int .i64 M, .slice a n c] 69)))
            have N1 := hid (cell_of_row _ _ 1 _ _ (0, 0) (heap_alloc_new w (.cells #[.int .i64 M, .slice a n c] 69)))
            have hzA : w.heap.size < (w.alloc (.cells #[.int .i64 M, .slice a n c] 69)).heap.size := by simp
            have n0 := N0.out
            have n1 := N1.out
            simp only [List.getElem?_toArray, List.getElem?_cons_zero, List.getElem?_cons_succ] at n0 n1
            generalize w.alloc (.cells #[.int .i64 M, .slice a n c] 69) = wA at *
            have KA := hid (show ∀ wx, Below wA.heap.size wA wx → (wx.cell? ⟨w.heap.size, 0, none⟩ = some (.int .i64 M) ∧ wx.cell? ⟨w.heap.size, 1, none⟩ = some (.slice a n c)) from fun wx hb => ⟨(hb.cell (p := ⟨w.heap.size, 0, none⟩) hzA).trans n0, (hb.cell (p := ⟨w.heap.size, 1, none⟩) hzA).trans n1⟩)
            go_wp2_with fail
            refine (s_l2Good M _ _ _ l _ (H.out.below BA.out) hn).mono ?_
            rintro e w1 ⟨rfl, hb1⟩
            rw [HG.out]
            have HB1 := hid hb1
            obtain ⟨n0', n1'⟩ := KA.out _ hb1
            have hz1 : w.heap.size < w1.heap.size := World.block_lt_of_cell? w1 _ n0'
            clear n0 n1 hb1
            go_wp2_with fail
            refine (s_l10Ring M _ _ _ l _ (H.out.below (bstep BA.out HB1.out)) HG.out).mono ?_
            rintro e w2 ⟨rfl, hb2⟩
            rw [HR.out]
            have HB2 := hid (bstep HB1.out hb2)
            obtain ⟨m0, m1⟩ := KA.out _ HB2.out
            have hz2 : w.heap.size < w2.heap.size := World.block_lt_of_cell? w2 _ m0
            clear n0' n1' hb2
            go_wp2_with fail
            refine (s_l8Flows _ _ _ n _ _ _ fs _ (H'.out.below (bstep BA.out HB2.out)) hm).mono ?_
            rintro e w3 ⟨rfl, hb3⟩
            rw [H3.out]
            have HB3 := hid (bstep HB2.out hb3)
            go_wp2_with fail
            refine (s_l1In _ _ _ _).mono ?_
            rintro e _ ⟨rfl, rfl⟩
            rw [H4.out]
            obtain ⟨k0, k1⟩ := KA.out _ HB3.out
            clear hb3
            go_wp2_with fail
            refine (s_l10Loop M _ _ _ l _ (H.out.below (bstep BA.out HB3.out)) HG.out HR.out hc).mono ?_
            rintro e w4 ⟨a4, c4, rfl, ho4, hb4⟩
            have HB4 := hid (bstep HB3.out hb4)
            have HO4 := hid ho4
            clear k0 k1 ho4 hb4
            go_wp2_with fail
            refine (s_l10Turn _ _ _ _ _ _ fs x _ HO4.out.at (H'.out.below (bstep BA.out HB4.out)) hn10 hn0 HSG.out HFL.out.2 hx).mono ?_
            rintro e w5 ⟨a5, c5, rfl, ho5, hb5⟩
            have HB5 := hid (bstep HB4.out hb5)
            have HO5 := hid ho5
            obtain ⟨k0, k1⟩ := KA.out _ HB5.out
            clear ho5 hb5
            go_wp2_with fail
            refine (s_l8Flows _ _ _ n _ _ _ (turnF (loopS l) fs x n) _ HO5.out.at hm).mono ?_
            rintro e w6 ⟨rfl, hb6⟩
            rw [H5.out]
            have HB6 := hid (bstep HB5.out hb6)
            go_wp2
            go_ret2
            exact ⟨_, _, rfl, (OwnI.lit0 _).mono (bstep BA.out HB6.out).size, bstep (bstep BA.out HB6.out) (by go_grown)⟩
          · have e0 : turnR M l fs x = (turnF (loopS l) fs x n, true) := by
              unfold turnR
              rw [hl, if_pos ⟨h12, h3, h4, h5⟩]
            rw [e0] at hR
            cases hR
            have H5 := hid h5
            have hlen : (turnF (loopS l) fs x n).length = n := by rw [turnF_len]; exact (goodFl_iff.1 h3).1
            rw [hlen]
            clear h1 h2 h12 h3 h4 h5 hl hN e0
            go_enter Try.func62, Try.ntmps62
            go_upto_region 1 with fail
            have BA := hid (by go_grown : Below w.heap.size w (w.alloc (.cells #[.int .i64 M, .slice a n c] 69)))
            have N0 := hid (cell_of_row _ _ 0 _ _ (0, 0) (heap_alloc_new w (.cells #[.int .i64 M, .slice a n c] 69)))
            have N1 := hid (cell_of_row _ _ 1 _ _ (0, 0) (heap_alloc_new w (.cells #[.int .i64 M, .slice a n c] 69)))
            have hzA : w.heap.size < (w.alloc (.cells #[.int .i64 M, .slice a n c] 69)).heap.size := by simp
            have n0 := N0.out
            have n1 := N1.out
            simp only [List.getElem?_toArray, List.getElem?_cons_zero, List.getElem?_cons_succ] at n0 n1
            generalize w.alloc (.cells #[.int .i64 M, .slice a n c] 69) = wA at *
            have KA := hid (show ∀ wx, Below wA.heap.size wA wx → (wx.cell? ⟨w.heap.size, 0, none⟩ = some (.int .i64 M) ∧ wx.cell? ⟨w.heap.size, 1, none⟩ = some (.slice a n c)) from fun wx hb => ⟨(hb.cell (p := ⟨w.heap.size, 0, none⟩) hzA).trans n0, (hb.cell (p := ⟨w.heap.size, 1, none⟩) hzA).trans n1⟩)
            go_wp2_with fail
            refine (s_l2Good M _ _ _ l _ (H.out.below BA.out) hn).mono ?_
            rintro e w1 ⟨rfl, hb1⟩
            rw [HG.out]
            have HB1 := hid hb1
            obtain ⟨n0', n1'⟩ := KA.out _ hb1
            have hz1 : w.heap.size < w1.heap.size := World.block_lt_of_cell? w1 _ n0'
            clear n0 n1 hb1
            go_wp2_with fail
            refine (s_l10Ring M _ _ _ l _ (H.out.below (bstep BA.out HB1.out)) HG.out).mono ?_
            rintro e w2 ⟨rfl, hb2⟩
            rw [HR.out]
            have HB2 := hid (bstep HB1.out hb2)
            obtain ⟨m0, m1⟩ := KA.out _ HB2.out
            have hz2 : w.heap.size < w2.heap.size := World.block_lt_of_cell? w2 _ m0
            clear n0' n1' hb2
            go_wp2_with fail
            refine (s_l8Flows _ _ _ n _ _ _ fs _ (H'.out.below (bstep BA.out HB2.out)) hm).mono ?_
            rintro e w3 ⟨rfl, hb3⟩
            rw [H3.out]
            have HB3 := hid (bstep HB2.out hb3)
            go_wp2_with fail
            refine (s_l1In _ _ _ _).mono ?_
            rintro e _ ⟨rfl, rfl⟩
            rw [H4.out]
            obtain ⟨k0, k1⟩ := KA.out _ HB3.out
            clear hb3
            go_wp2_with fail
            refine (s_l10Loop M _ _ _ l _ (H.out.below (bstep BA.out HB3.out)) HG.out HR.out hc).mono ?_
            rintro e w4 ⟨a4, c4, rfl, ho4, hb4⟩
            have HB4 := hid (bstep HB3.out hb4)
            have HO4 := hid ho4
            clear k0 k1 ho4 hb4
            go_wp2_with fail
            refine (s_l10Turn _ _ _ _ _ _ fs x _ HO4.out.at (H'.out.below (bstep BA.out HB4.out)) hn10 hn0 HSG.out HFL.out.2 hx).mono ?_
            rintro e w5 ⟨a5, c5, rfl, ho5, hb5⟩
            have HB5 := hid (bstep HB4.out hb5)
            have HO5 := hid ho5
            obtain ⟨k0, k1⟩ := KA.out _ HB5.out
            clear ho5 hb5
            go_wp2_with fail
            refine (s_l8Flows _ _ _ n _ _ _ (turnF (loopS l) fs x n) _ HO5.out.at hm).mono ?_
            rintro e w6 ⟨rfl, hb6⟩
            rw [H5.out]
            have HB6 := hid (bstep HB5.out hb6)
            have HO6 := hid ((HO5.out.below hb6).mono (B' := w.heap.size) (Nat.le_trans BA.out.size HB4.out.size))
            go_wp2
            go_ret2
            exact ⟨_, _, rfl, HO6.out, bstep BA.out HB6.out⟩

end Go.Proofs.Ytpmffboojkfpdaa

/-
  Flows turned around a loop, plain: twice, and back.
-/
set_option linter.unusedVariables false
set_option linter.unusedSimpArgs false
namespace Go.Proofs.Ytpmffboojkfpdaa
open Go.RowKit

theorem ext_getD {a b : List Int} (h : a.length = b.length) (hx : ∀ i, i < a.length → a[i]?.getD 0 = b[i]?.getD 0) : a = b := by
  apply List.ext_getElem h
  intro i h1 h2
  have := hx i h1
  rw [List.getElem?_eq_getElem h1, List.getElem?_eq_getElem h2] at this
  exact this
theorem turnF_add {S fs : List Int} {x y : Int} {n : Nat} (hn : fs.length = n) : turnF S (turnF S fs x n) y n = turnF S fs (x + y) n := by
  apply ext_getD (by rw [turnF_len, turnF_len, turnF_len])
  intro i hi
  rw [turnF_len, turnF_len] at hi
  rw [turnF_get _ _ _ n i (by omega) (by rw [turnF_len]; omega), turnF_get _ _ _ n i (by omega) (by omega), turnF_get _ _ _ n i (by omega) (by omega), Int.mul_add]
  omega
theorem turnF_zero {S fs : List Int} {n : Nat} (hn : fs.length = n) : turnF S fs 0 n = fs := by
  apply ext_getD (by rw [turnF_len])
  intro i hi
  rw [turnF_len] at hi
  rw [turnF_get _ _ _ n i (by omega) (by omega)]
  omega
/-- What TurnFlows returns, turned back. -/
theorem turnR_back {N : Int} {l : List Pip} {fs R : List Int} {x : Int} (h : turnR N l fs x = (R, true)) : turnR N l R (-x) = (fs, true) ∧ (-8000 ≤ x ∧ x ≤ 8000) := by
  unfold turnR at h
  split at h
  · rename_i h1
    obtain ⟨a, b, c, d⟩ := h1
    cases h
    have hl := (goodFl_iff.1 b).1
    have hx := inR_iff.1 c
    have e : turnF (loopS l) (turnF (loopS l) fs x l.length) (-x) l.length = fs := by
      rw [turnF_add hl, Int.add_right_neg, turnF_zero hl]
    refine ⟨?_, hx⟩
    unfold turnR
    rw [if_pos ⟨a, d, inR_iff.2 ⟨by omega, by omega⟩, by rw [e]; exact b⟩, e]
  · cases h

end Go.Proofs.Ytpmffboojkfpdaa

/-
  LoopLoss, in the program and in the reference.
-/
set_option linter.unusedVariables false
set_option linter.unusedSimpArgs false
namespace Go.Proofs.Ytpmffboojkfpdaa
open Go.RowKit

/-- The losses along the loop. -/
noncomputable def lloss (l : List Pip) (fs : List Int) : Nat → Int
  | 0 => 0
  | k + 1 => lloss l fs k + (loopS l)[k]?.getD 0 * loss l fs k
theorem loss_in {N : Int} {l : List Pip} {fs : List Int} {k : Nat} (hg : goodNet N l = true) (hf : goodFl l.length fs = true) (hk : k < l.length) : -576000000 ≤ loss l fs k ∧ loss l fs k ≤ 576000000 :=
  (loss_fit (goodNet_pipe hg hk).2.2.2.2 ((goodFl_iff.1 hf).2 _ (getD_mem fs k (by have := (goodFl_iff.1 hf).1; omega)))).2
theorem lloss_step {N : Int} {l : List Pip} {fs : List Int} {k : Nat} (hg : goodNet N l = true) (hf : goodFl l.length fs = true) (hk : k < l.length) : -576000000 ≤ (loopS l)[k]?.getD 0 * loss l fs k ∧ (loopS l)[k]?.getD 0 * loss l fs k ≤ 576000000 := by
  have h1 := loopS_fit l hk
  have h2 := loss_in hg hf hk
  have h3 : (loopS l)[k]?.getD 0 = -1 ∨ (loopS l)[k]?.getD 0 = 0 ∨ (loopS l)[k]?.getD 0 = 1 := by omega
  rcases h3 with h3 | h3 | h3 <;> rw [h3] <;> omega
theorem lloss_fit {N : Int} {l : List Pip} {fs : List Int} (hg : goodNet N l = true) (hf : goodFl l.length fs = true) : ∀ k : Nat, k ≤ l.length → -(576000000 * (k : Int)) ≤ lloss l fs k ∧ lloss l fs k ≤ 576000000 * (k : Int)
  | 0, _ => by simp [lloss]
  | k + 1, hk => by
    have h1 := lloss_fit hg hf k (by omega)
    have h2 := lloss_step hg hf (k := k) (by omega)
    unfold lloss
    omega
/-- What LoopLoss returns. -/
noncomputable def llossR (N : Int) (l : List Pip) (fs : List Int) : Int × Bool := if (goodNet N l && ringB N l) = true ∧ goodFl l.length fs = true then (lloss l fs l.length, true) else (0, false)
theorem llossR_no {N : Int} {l : List Pip} {fs : List Int} (h : (goodNet N l && ringB N l) = false ∨ goodFl l.length fs = false) : llossR N l fs = (0, false) := by
  unfold llossR
  rw [if_neg]
  rintro ⟨h1, h2⟩
  rcases h with h | h
  · rw [h1] at h; cases h
  · rw [h2] at h; cases h

abbrev RowC (W1 : World) (z b0 k g b1 off1 : Nat) (off0 n c : Nat) (p0 p1 p2 p3 s x : Int) (w' : World) : Prop :=
  Below W1.heap.size W1 w' ∧ w'.cell? ⟨z, 1, none⟩ = some (.slice (some ⟨b0, off0, none⟩) n c) ∧ w'.cell? ⟨b0, off0 + k * 4, none⟩ = some (.int .i64 p0) ∧ w'.cell? ⟨b0, off0 + k * 4 + 1, none⟩ = some (.int .i64 p1) ∧ w'.cell? ⟨b0, off0 + k * 4 + 2, none⟩ = some (.int .i64 p2) ∧ w'.cell? ⟨b0, off0 + k * 4 + 3, none⟩ = some (.int .i64 p3) ∧ w'.cell? ⟨g, k, none⟩ = some (.int .i64 s) ∧ w'.cell? ⟨b1, off1 + k, none⟩ = some (.int .i64 x)
theorem RowC.keep (W1 : World) (z b0 k g b1 off1 : Nat) (off0 n c : Nat) (p0 p1 p2 p3 s x : Int) (wy w5 : World) (h : RowC W1 z b0 k g b1 off1 off0 n c p0 p1 p2 p3 s x wy) (hb : Below wy.heap.size wy w5) : RowC W1 z b0 k g b1 off1 off0 n c p0 p1 p2 p3 s x w5 := by
  obtain ⟨h0, h1, h2, h3, h4, h5, h6, h7⟩ := h
  exact ⟨bstep h0 hb, (hb.cell (World.block_lt_of_cell? wy _ h1)).trans h1, (hb.cell (World.block_lt_of_cell? wy _ h2)).trans h2, (hb.cell (World.block_lt_of_cell? wy _ h3)).trans h3, (hb.cell (World.block_lt_of_cell? wy _ h4)).trans h4, (hb.cell (World.block_lt_of_cell? wy _ h5)).trans h5, (hb.cell (World.block_lt_of_cell? wy _ h6)).trans h6, (hb.cell (World.block_lt_of_cell? wy _ h7)).trans h7⟩

set_option maxRecDepth 100000 in
set_option maxHeartbeats 4000000 in
theorem i_LoopLoss (N : Int) (a b : Option Addr) (n c m d : Nat) (l : List Pip) (fs : List Int) (w : World) (h : QAt w a n l) (h' : IntsAt w b m fs) (hn : n ≤ 1048576) (hm : m ≤ 1048576) (x : Int) (y : Bool) (hR : llossR N l fs = (x, y)) :
    Calls Try.prog 64 #[.agg #[.int .i64 N, .slice a n c], .slice b m d] w fun e w' => e = .returned (.tuple #[.int .i64 x, .bool y]) ∧ Below w.heap.size w w' := by
  have hl := h.1
  have H := hid h
  have H' := hid h'
  clear h h'
  cases h12 : (goodNet N l && ringB N l)
  · rw [llossR_no (.inl h12)] at hR
    cases hR
    obtain ⟨M, rfl⟩ : ∃ M : Int, M = N := ⟨_, rfl⟩
    have HF := hid h12
    clear h12 hl
    go_enter Try.func64, Try.ntmps64
    go_upto_region 1 with fail
    have BA := hid (by go_grown : Below w.heap.size w (w.alloc (.cells #[.int .i64 M, .slice a n c] 69)))
    have N0 := hid (cell_of_row _ _ 0 _ _ (0, 0) (heap_alloc_new w (.cells #[.int .i64 M, .slice a n c] 69)))
    have N1 := hid (cell_of_row _ _ 1 _ _ (0, 0) (heap_alloc_new w (.cells #[.int .i64 M, .slice a n c] 69)))
    have hzA : w.heap.size < (w.alloc (.cells #[.int .i64 M, .slice a n c] 69)).heap.size := by simp
    have n0 := N0.out
    have n1 := N1.out
    simp only [List.getElem?_toArray, List.getElem?_cons_zero, List.getElem?_cons_succ] at n0 n1
    generalize w.alloc (.cells #[.int .i64 M, .slice a n c] 69) = wA at *
    have KA := hid (show ∀ wx, Below wA.heap.size wA wx → (wx.cell? ⟨w.heap.size, 0, none⟩ = some (.int .i64 M) ∧ wx.cell? ⟨w.heap.size, 1, none⟩ = some (.slice a n c)) from fun wx hb => ⟨(hb.cell (p := ⟨w.heap.size, 0, none⟩) hzA).trans n0, (hb.cell (p := ⟨w.heap.size, 1, none⟩) hzA).trans n1⟩)
    go_wp2_with fail
    refine (i_hasRing M _ _ _ l _ (H.out.below BA.out) hn).mono ?_
    rintro e w1 ⟨rfl, hb1⟩
    rw [HF.out]
    have HB1 := hid hb1
    obtain ⟨n0', n1'⟩ := KA.out _ hb1
    have hz1 : w.heap.size < w1.heap.size := World.block_lt_of_cell? w1 _ n0'
    clear n0 n1 hb1
    go_wp2
    go_ret2
    exact ⟨rfl, bstep BA.out HB1.out⟩
  · obtain ⟨h1, h2⟩ := (Bool.and_eq_true _ _).mp h12
    have hN := (goodNet_get h1).1
    obtain ⟨M, rfl⟩ : ∃ M : Nat, N = M := ⟨N.toNat, by omega⟩
    have HF := hid h12
    cases h3 : goodFl n fs
    · rw [llossR_no (.inr (by rw [hl]; exact h3))] at hR
      cases hR
      have H3 := hid h3
      clear h1 h2 h12 h3 hl hN
      go_enter Try.func64, Try.ntmps64
      go_upto_region 1 with fail
      have BA := hid (by go_grown : Below w.heap.size w (w.alloc (.cells #[.int .i64 M, .slice a n c] 69)))
      have N0 := hid (cell_of_row _ _ 0 _ _ (0, 0) (heap_alloc_new w (.cells #[.int .i64 M, .slice a n c] 69)))
      have N1 := hid (cell_of_row _ _ 1 _ _ (0, 0) (heap_alloc_new w (.cells #[.int .i64 M, .slice a n c] 69)))
      have hzA : w.heap.size < (w.alloc (.cells #[.int .i64 M, .slice a n c] 69)).heap.size := by simp
      have n0 := N0.out
      have n1 := N1.out
      simp only [List.getElem?_toArray, List.getElem?_cons_zero, List.getElem?_cons_succ] at n0 n1
      generalize w.alloc (.cells #[.int .i64 M, .slice a n c] 69) = wA at *
      have KA := hid (show ∀ wx, Below wA.heap.size wA wx → (wx.cell? ⟨w.heap.size, 0, none⟩ = some (.int .i64 M) ∧ wx.cell? ⟨w.heap.size, 1, none⟩ = some (.slice a n c)) from fun wx hb => ⟨(hb.cell (p := ⟨w.heap.size, 0, none⟩) hzA).trans n0, (hb.cell (p := ⟨w.heap.size, 1, none⟩) hzA).trans n1⟩)
      go_wp2_with fail
      refine (i_hasRing M _ _ _ l _ (H.out.below BA.out) hn).mono ?_
      rintro e w1 ⟨rfl, hb1⟩
      rw [HF.out]
      have HB1 := hid hb1
      obtain ⟨n0', n1'⟩ := KA.out _ hb1
      have hz1 : w.heap.size < w1.heap.size := World.block_lt_of_cell? w1 _ n0'
      clear n0 n1 hb1
      go_wp2_with fail
      refine (i_areFlows _ _ _ n _ _ _ fs _ (H'.out.below (bstep BA.out HB1.out)) hm).mono ?_
      rintro e w2 ⟨rfl, hb2⟩
      rw [H3.out]
      go_wp2
      go_ret2
      exact ⟨rfl, bstep BA.out (bstep HB1.out hb2)⟩
    · obtain rfl : n = m := by have := (goodFl_iff.1 h3).1; have := H'.out.1; omega
      have e0 : llossR M l fs = (lloss l fs n, true) := by
        unfold llossR
        rw [if_pos ⟨h12, by rw [hl]; exact h3⟩, hl]
      rw [e0] at hR
      cases hR
      have H3 := hid h3
      have HFL := hid (show goodFl l.length fs = true by rw [hl]; exact h3)
      have HLN := hid hl
      have HG := hid h1
      have HR := hid h2
      have hn10 : n ≤ 10 := by have := (goodNet_get h1).2.1; omega
      clear h1 h2 h12 h3 hl hN e0
      go_enter Try.func64, Try.ntmps64
      go_upto_region 1 with fail
      have BA := hid (by go_grown : Below w.heap.size w (w.alloc (.cells #[.int .i64 M, .slice a n c] 69)))
      have N0 := hid (cell_of_row _ _ 0 _ _ (0, 0) (heap_alloc_new w (.cells #[.int .i64 M, .slice a n c] 69)))
      have N1 := hid (cell_of_row _ _ 1 _ _ (0, 0) (heap_alloc_new w (.cells #[.int .i64 M, .slice a n c] 69)))
      have hzA : w.heap.size < (w.alloc (.cells #[.int .i64 M, .slice a n c] 69)).heap.size := by simp
      have n0 := N0.out
      have n1 := N1.out
      simp only [List.getElem?_toArray, List.getElem?_cons_zero, List.getElem?_cons_succ] at n0 n1
      generalize w.alloc (.cells #[.int .i64 M, .slice a n c] 69) = wA at *
      have KA := hid (show ∀ wx, Below wA.heap.size wA wx → (wx.cell? ⟨w.heap.size, 0, none⟩ = some (.int .i64 M) ∧ wx.cell? ⟨w.heap.size, 1, none⟩ = some (.slice a n c)) from fun wx hb => ⟨(hb.cell (p := ⟨w.heap.size, 0, none⟩) hzA).trans n0, (hb.cell (p := ⟨w.heap.size, 1, none⟩) hzA).trans n1⟩)
      go_wp2_with fail
      refine (i_hasRing M _ _ _ l _ (H.out.below BA.out) hn).mono ?_
      rintro e w1 ⟨rfl, hb1⟩
      rw [HF.out]
      have HB1 := hid hb1
      obtain ⟨n0', n1'⟩ := KA.out _ hb1
      have hz1 : w.heap.size < w1.heap.size := World.block_lt_of_cell? w1 _ n0'
      clear n0 n1 hb1
      go_wp2_with fail
      refine (i_areFlows _ _ _ n _ _ _ fs _ (H'.out.below (bstep BA.out HB1.out)) hm).mono ?_
      rintro e w2 ⟨rfl, hb2⟩
      rw [H3.out]
      have HB2 := hid (bstep HB1.out hb2)
      obtain ⟨m0, m1⟩ := KA.out _ HB2.out
      clear n0' n1' hb2 hz1
      go_wp2_with fail
      refine (i_loopOf M _ _ _ l _ (H.out.below (bstep BA.out HB2.out)) HG.out HR.out).mono ?_
      rintro e w3 ⟨a3, c3, rfl, ho3, hb3⟩
      have HO3 := hid ho3
      have HB3 := hid (bstep HB2.out hb3)
      obtain ⟨n0, n1⟩ := KA.out _ HB3.out
      have hz3 : w.heap.size < w3.heap.size := World.block_lt_of_cell? w3 _ n0
      clear m0 m1 ho3 hb3
      go_wp2
      go_loopg [6, 21] n (fun g s i wr => ∃ k : Nat, k ≤ n ∧ g = n - k ∧ s = .int .i64 (lloss l fs k) ∧ i = .int .i64 k ∧ Hid (Below w3.heap.size w3 wr))
      case atStart => exact ⟨0, Nat.zero_le _, rfl, rfl, rfl, hid (Below.refl _ _)⟩
      case round =>
        obtain ⟨k, hk, rfl, rfl, rfl, hh⟩ := hrel
        clear n0 n1
        have HBW := hid (bstep HB3.out hh.out)
        obtain ⟨n0, n1⟩ := KA.out _ HBW.out
        by_cases hlt : k < n
        · obtain ⟨g3, rfl, hg31, hg32⟩ := own_some HO3.out (by omega)
          have hcl := (HO3.out.below hh.out).cell (k := k) hlt
          have hkl : k < l.length := by have := HLN.out; omega
          have f1 := lloss_fit HG.out HFL.out k (by omega)
          have f2 := lloss_step HG.out HFL.out hkl
          have f3 := loss_in HG.out HFL.out hkl
          have hw1 := IntWalk.i64_in ((loopS l)[k]?.getD 0 * loss l fs k) (by omega)
          have hw2 := IntWalk.i64_in (lloss l fs k + (loopS l)[k]?.getD 0 * loss l fs k) (by omega)
          go_wp2_with fail
          refine (i_lossOf _ _ _ _ _ _ k l fs _ (H.out.below (bstep BA.out HBW.out)) (H'.out.below (bstep BA.out HBW.out)) HG.out H3.out hlt).mono ?_
          rintro e w5 ⟨rfl, hb5⟩
          have HB5 := hid (bstep hh.out hb5)
          clear hb5
          go_wp2
          go_roundg (n - (k + 1))
          case rel => exact ⟨k + 1, by omega, rfl, by rw [lloss], by go_num, HB5⟩
          case measure => omega
        · obtain rfl : n = k := by omega
          go_wp2
          go_ret2
          exact ⟨rfl, bstep BA.out HBW.out⟩

set_option maxRecDepth 100000 in
set_option maxHeartbeats 4000000 in
theorem s_LoopLoss (N : Int) (a b : Option Addr) (n c m d : Nat) (l : List Pip) (fs : List Int) (w : World) (h : QAt w a n l) (h' : IntsAt w b m fs) (hn : n ≤ 1048576) (hm : m ≤ 1048576) (hc : n ≤ c) (x : Int) (y : Bool) (hR : llossR N l fs = (x, y)) :
    Calls Try.prog 65 #[.agg #[.int .i64 N, .slice a n c], .slice b m d] w fun e w' => e = .returned (.tuple #[.int .i64 x, .bool y]) ∧ Below w.heap.size w w' := by
  have hl := h.1
  have H := hid h
  have H' := hid h'
  clear h h'
  cases h1 : goodNet N l
  · rw [llossR_no (.inl (by rw [h1]; rfl))] at hR
    cases hR
    obtain ⟨M, rfl⟩ : ∃ M : Int, M = N := ⟨_, rfl⟩
    have HG := hid h1
    clear h1 hl
    go_enter Try.func65, Try.ntmps65
    go_upto_region 1 with fail
    have BA := hid (by go_grown : Below w.heap.size w (w.alloc (.cells #[.int .i64 M, .slice a n c] 69)))
    have N0 := hid (cell_of_row _ _ 0 _ _ (0, 0) (heap_alloc_new w (.cells #[.int .i64 M, .slice a n c] 69)))
    have N1 := hid (cell_of_row _ _ 1 _ _ (0, 0) (heap_alloc_new w (.cells #[.int .i64 M, .slice a n c] 69)))
    have hzA : w.heap.size < (w.alloc (.cells #[.int .i64 M, .slice a n c] 69)).heap.size := by simp
    have n0 := N0.out
    have n1 := N1.out
    simp only [List.getElem?_toArray, List.getElem?_cons_zero, List.getElem?_cons_succ] at n0 n1
    generalize w.alloc (.cells #[.int .i64 M, .slice a n c] 69) = wA at *
    have KA := hid (show ∀ wx, Below wA.heap.size wA wx → (wx.cell? ⟨w.heap.size, 0, none⟩ = some (.int .i64 M) ∧ wx.cell? ⟨w.heap.size, 1, none⟩ = some (.slice a n c)) from fun wx hb => ⟨(hb.cell (p := ⟨w.heap.size, 0, none⟩) hzA).trans n0, (hb.cell (p := ⟨w.heap.size, 1, none⟩) hzA).trans n1⟩)
    go_wp2_with fail
    refine (s_l2Good M _ _ _ l _ (H.out.below BA.out) hn).mono ?_
    rintro e w1 ⟨rfl, hb1⟩
    rw [HG.out]
    have HB1 := hid hb1
    obtain ⟨n0', n1'⟩ := KA.out _ hb1
    have hz1 : w.heap.size < w1.heap.size := World.block_lt_of_cell? w1 _ n0'
    clear n0 n1 hb1
    go_wp2
    go_ret2
    exact ⟨rfl, bstep BA.out HB1.out⟩
  · have hN := (goodNet_get h1).1
    obtain ⟨M, rfl⟩ : ∃ M : Nat, N = M := ⟨N.toNat, by omega⟩
    have HG := hid h1
    cases h2 : ringB M l
    · rw [llossR_no (.inl (by rw [h1, h2]; rfl))] at hR
      cases hR
      have HR := hid h2
      clear h1 h2 hl hN
      go_enter Try.func65, Try.ntmps65
      go_upto_region 1 with fail
      have BA := hid (by go_grown : Below w.heap.size w (w.alloc (.cells #[.int .i64 M, .slice a n c] 69)))
      have N0 := hid (cell_of_row _ _ 0 _ _ (0, 0) (heap_alloc_new w (.cells #[.int .i64 M, .slice a n c] 69)))
      have N1 := hid (cell_of_row _ _ 1 _ _ (0, 0) (heap_alloc_new w (.cells #[.int .i64 M, .slice a n c] 69)))
      have hzA : w.heap.size < (w.alloc (.cells #[.int .i64 M, .slice a n c] 69)).heap.size := by simp
      have n0 := N0.out
      have n1 := N1.out
      simp only [List.getElem?_toArray, List.getElem?_cons_zero, List.getElem?_cons_succ] at n0 n1
      generalize w.alloc (.cells #[.int .i64 M, .slice a n c] 69) = wA at *
      have KA := hid (show ∀ wx, Below wA.heap.size wA wx → (wx.cell? ⟨w.heap.size, 0, none⟩ = some (.int .i64 M) ∧ wx.cell? ⟨w.heap.size, 1, none⟩ = some (.slice a n c)) from fun wx hb => ⟨(hb.cell (p := ⟨w.heap.size, 0, none⟩) hzA).trans n0, (hb.cell (p := ⟨w.heap.size, 1, none⟩) hzA).trans n1⟩)
      go_wp2_with fail
      refine (s_l2Good M _ _ _ l _ (H.out.below BA.out) hn).mono ?_
      rintro e w1 ⟨rfl, hb1⟩
      rw [HG.out]
      have HB1 := hid hb1
      obtain ⟨n0', n1'⟩ := KA.out _ hb1
      have hz1 : w.heap.size < w1.heap.size := World.block_lt_of_cell? w1 _ n0'
      clear n0 n1 hb1
      go_wp2_with fail
      refine (s_l10Ring M _ _ _ l _ (H.out.below (bstep BA.out HB1.out)) HG.out).mono ?_
      rintro e w2 ⟨rfl, hb2⟩
      rw [HR.out]
      have HB2 := hid (bstep HB1.out hb2)
      obtain ⟨m0, m1⟩ := KA.out _ HB2.out
      have hz2 : w.heap.size < w2.heap.size := World.block_lt_of_cell? w2 _ m0
      clear n0' n1' hb2
      go_wp2
      go_ret2
      exact ⟨rfl, bstep BA.out HB2.out⟩
    · have HR := hid h2
      cases h3 : goodFl n fs
      · rw [llossR_no (.inr (by rw [hl]; exact h3))] at hR
        cases hR
        have H3 := hid h3
        clear h1 h2 h3 hl hN
        go_enter Try.func65, Try.ntmps65
        go_upto_region 1 with fail
        have BA := hid (by go_grown : Below w.heap.size w (w.alloc (.cells #[.int .i64 M, .slice a n c] 69)))
        have N0 := hid (cell_of_row _ _ 0 _ _ (0, 0) (heap_alloc_new w (.cells #[.int .i64 M, .slice a n c] 69)))
        have N1 := hid (cell_of_row _ _ 1 _ _ (0, 0) (heap_alloc_new w (.cells #[.int .i64 M, .slice a n c] 69)))
        have hzA : w.heap.size < (w.alloc (.cells #[.int .i64 M, .slice a n c] 69)).heap.size := by simp
        have n0 := N0.out
        have n1 := N1.out
        simp only [List.getElem?_toArray, List.getElem?_cons_zero, List.getElem?_cons_succ] at n0 n1
        generalize w.alloc (.cells #[.int .i64 M, .slice a n c] 69) = wA at *
        have KA := hid (show ∀ wx, Below wA.heap.size wA wx → (wx.cell? ⟨w.heap.size, 0, none⟩ = some (.int .i64 M) ∧ wx.cell? ⟨w.heap.size, 1, none⟩ = some (.slice a n c)) from fun wx hb => ⟨(hb.cell (p := ⟨w.heap.size, 0, none⟩) hzA).trans n0, (hb.cell (p := ⟨w.heap.size, 1, none⟩) hzA).trans n1⟩)
        go_wp2_with fail
        refine (s_l2Good M _ _ _ l _ (H.out.below BA.out) hn).mono ?_
        rintro e w1 ⟨rfl, hb1⟩
        rw [HG.out]
        have HB1 := hid hb1
        obtain ⟨n0', n1'⟩ := KA.out _ hb1
        have hz1 : w.heap.size < w1.heap.size := World.block_lt_of_cell? w1 _ n0'
        clear n0 n1 hb1
        go_wp2_with fail
        refine (s_l10Ring M _ _ _ l _ (H.out.below (bstep BA.out HB1.out)) HG.out).mono ?_
        rintro e w2 ⟨rfl, hb2⟩
        rw [HR.out]
        have HB2 := hid (bstep HB1.out hb2)
        obtain ⟨m0, m1⟩ := KA.out _ HB2.out
        have hz2 : w.heap.size < w2.heap.size := World.block_lt_of_cell? w2 _ m0
        clear n0' n1' hb2
        go_wp2_with fail
        refine (s_l8Flows _ _ _ n _ _ _ fs _ (H'.out.below (bstep BA.out HB2.out)) hm).mono ?_
        rintro e w3 ⟨rfl, hb3⟩
        rw [H3.out]
        go_wp2
        go_ret2
        exact ⟨rfl, bstep BA.out (bstep HB2.out hb3)⟩
      · obtain rfl : n = m := by have := (goodFl_iff.1 h3).1; have := H'.out.1; omega
        have e0 : llossR M l fs = (lloss l fs n, true) := by
          unfold llossR
          rw [if_pos ⟨by rw [h1, h2]; rfl, by rw [hl]; exact h3⟩, hl]
        rw [e0] at hR
        cases hR
        have H3 := hid h3
        have HFL := hid (show goodFl l.length fs = true by rw [hl]; exact h3)
        have HLN := hid hl
        have HLF := hid H'.out.1
        have hn10 : n ≤ 10 := by have := (goodNet_get h1).2.1; omega
        clear h1 h2 h3 hl hN e0
        go_enter Try.func65, Try.ntmps65
        go_upto_region 1 with fail
        have BA := hid (by go_grown : Below w.heap.size w (w.alloc (.cells #[.int .i64 M, .slice a n c] 69)))
        have N0 := hid (cell_of_row _ _ 0 _ _ (0, 0) (heap_alloc_new w (.cells #[.int .i64 M, .slice a n c] 69)))
        have N1 := hid (cell_of_row _ _ 1 _ _ (0, 0) (heap_alloc_new w (.cells #[.int .i64 M, .slice a n c] 69)))
        have hzA : w.heap.size < (w.alloc (.cells #[.int .i64 M, .slice a n c] 69)).heap.size := by simp
        have n0 := N0.out
        have n1 := N1.out
        simp only [List.getElem?_toArray, List.getElem?_cons_zero, List.getElem?_cons_succ] at n0 n1
        generalize w.alloc (.cells #[.int .i64 M, .slice a n c] 69) = wA at *
        have KA := hid (show ∀ wx, Below wA.heap.size wA wx → (wx.cell? ⟨w.heap.size, 0, none⟩ = some (.int .i64 M) ∧ wx.cell? ⟨w.heap.size, 1, none⟩ = some (.slice a n c)) from fun wx hb => ⟨(hb.cell (p := ⟨w.heap.size, 0, none⟩) hzA).trans n0, (hb.cell (p := ⟨w.heap.size, 1, none⟩) hzA).trans n1⟩)
        go_wp2_with fail
        refine (s_l2Good M _ _ _ l _ (H.out.below BA.out) hn).mono ?_
        rintro e w1 ⟨rfl, hb1⟩
        rw [HG.out]
        have HB1 := hid hb1
        obtain ⟨n0', n1'⟩ := KA.out _ hb1
        have hz1 : w.heap.size < w1.heap.size := World.block_lt_of_cell? w1 _ n0'
        clear n0 n1 hb1
        go_wp2_with fail
        refine (s_l10Ring M _ _ _ l _ (H.out.below (bstep BA.out HB1.out)) HG.out).mono ?_
        rintro e w2 ⟨rfl, hb2⟩
        rw [HR.out]
        have HB2 := hid (bstep HB1.out hb2)
        obtain ⟨m0, m1⟩ := KA.out _ HB2.out
        have hz2 : w.heap.size < w2.heap.size := World.block_lt_of_cell? w2 _ m0
        clear n0' n1' hb2
        go_wp2_with fail
        refine (s_l8Flows _ _ _ n _ _ _ fs _ (H'.out.below (bstep BA.out HB2.out)) hm).mono ?_
        rintro e w3 ⟨rfl, hb3⟩
        rw [H3.out]
        have HB3 := hid (bstep HB2.out hb3)
        obtain ⟨n0, n1⟩ := KA.out _ HB3.out
        clear m0 m1 hb3 hz1 hz2
        go_wp2_with fail
        refine (s_l10Loop M _ _ _ l _ (H.out.below (bstep BA.out HB3.out)) HG.out HR.out hc).mono ?_
        rintro e w4 ⟨a4, c4, rfl, ho4, hb4⟩
        have HO4 := hid ho4
        have HB4 := hid (bstep HB3.out hb4)
        clear n0 n1 ho4 hb4
        obtain ⟨n0, n1⟩ := KA.out _ HB4.out
        have hz4 : w.heap.size < w4.heap.size := World.block_lt_of_cell? w4 _ n0
        go_wp2
        go_loopg [7, 8] n (fun g s i wr => ∃ k : Nat, k ≤ n ∧ g = n - k ∧ s = .int .i64 (lloss l fs k) ∧ i = .int .i64 k ∧ Hid (Below w4.heap.size w4 wr))
        case atStart => exact ⟨0, Nat.zero_le _, rfl, rfl, rfl, hid (Below.refl _ _)⟩
        case round =>
          obtain ⟨k, hk, rfl, rfl, rfl, hh⟩ := hrel
          clear n0 n1
          have HBW := hid (bstep HB4.out hh.out)
          obtain ⟨n0, n1⟩ := KA.out _ HBW.out
          by_cases hlt : k < n
          · obtain ⟨g4, rfl, hg41, hg42⟩ := own_some HO4.out (by omega)
            have hcl := (HO4.out.below hh.out).cell (k := k) hlt
            obtain ⟨b0, off0, rfl, hbw, x0, x1, x2, x3⟩ := QAt.get (H.out.below (bstep BA.out HBW.out)) k hlt
            obtain ⟨b1, off1, rfl, hbw1, hfc⟩ := (H'.out.below (bstep BA.out HBW.out)).2 k hlt
            have hkl : k < l.length := by have := HLN.out; omega
            have f1 := lloss_fit HG.out HFL.out k (by omega)
            have f2 := lloss_step HG.out HFL.out hkl
            have hsz := (goodNet_pipe HG.out hkl).2.2.2.2
            have hfq := (goodFl_iff.1 H3.out).2 _ (getD_mem fs k (by have := HLF.out; omega))
            have hw1 := IntWalk.i64_in ((loopS l)[k]?.getD 0 * loss l fs k) (by omega)
            have hw2 := IntWalk.i64_in (lloss l fs k + (loopS l)[k]?.getD 0 * loss l fs k) (by omega)
            obtain ⟨q, hq0⟩ : ∃ q, fs[k]?.getD 0 = q := ⟨_, rfl⟩
            rw [hq0] at hfc hfq
            have HLO := hid (show (pp l k).2.2.2 * q * max q (-q) = loss l fs k from by unfold loss; rw [hq0])
            obtain ⟨sg, hsg⟩ : ∃ sg, (loopS l)[k]?.getD 0 = sg := ⟨_, rfl⟩
            obtain ⟨lo, hlo⟩ : ∃ lo, loss l fs k = lo := ⟨_, rfl⟩
            have HE := hid (show lloss l fs (k + 1) = lloss l fs k + sg * lo from by rw [lloss, hsg, hlo])
            rw [hsg] at hcl hw1 hw2
            rw [hlo] at hw1 hw2 HLO
            obtain ⟨P, hP⟩ : ∃ P, pp l k = P := ⟨_, rfl⟩
            rw [hP] at x0 x1 x2 x3 hsz HLO
            have X := hid (show RowC wr w.heap.size b0 k g4 b1 off1 off0 n c P.1 P.2.1 P.2.2.1 P.2.2.2 sg q wr.drew from ⟨(Below.refl _ _).drew, n1, x0, x1, x2, x3, hcl, hfc⟩)
            clear hsg hlo hq0 hP x0 x1 x2 x3 hcl hfc n0 n1 f1 f2 hbw hbw1
            go_upto_region 8 with fail
            refine wp_region_calm (C := (fun w' => Below wr.heap.size wr w' ∧ w'.cell? ⟨w.heap.size, 1, none⟩ = some (.slice (some ⟨b0, off0, none⟩) n c) ∧ w'.cell? ⟨b0, off0 + k * 4, none⟩ = some (.int .i64 P.1) ∧ w'.cell? ⟨b0, off0 + k * 4 + 1, none⟩ = some (.int .i64 P.2.1) ∧ w'.cell? ⟨b0, off0 + k * 4 + 2, none⟩ = some (.int .i64 P.2.2.1) ∧ w'.cell? ⟨b0, off0 + k * 4 + 3, none⟩ = some (.int .i64 P.2.2.2) ∧ w'.cell? ⟨g4, k, none⟩ = some (.int .i64 sg) ∧ w'.cell? ⟨b1, off1 + k, none⟩ = some (.int .i64 q))) (by kernel_rfl) (by kernel_rfl) (X.out) ?_
            repeat
              first
                | go_big_quiet_skip
                | (go_big_quiet_want
                   first
                     | (unfold Oper.quiet
                        apply Exists.intro
                        refine ⟨fun wq hq => ?_, ?_⟩
                        · (try dsimp only at hq
                           simp [go_sem, Oper.quietAt, Oper.quietUpon, BigFrame.eval_const, BigFrame.eval_global, BigFrame.eval_func, ↓IntWalk.iteOmega, *]
                           first | done | rfl | (refine calm_call hq (RowC.keep wr w.heap.size b0 k g4 b1 off1 off0 n c P.1 P.2.1 P.2.2.1 P.2.2.2 sg q) (s_l9Loss _ _ _ _ _ _ hsz hfq) (by rw [HLO.out])))
                        simp only [Act.put, List.setIfInBounds_toArray, List.set_cons_succ, List.set_cons_zero]
                        go_big_quiet_on))
            refine wpQuiet_nil ?_
            intro wc hcalm
            try dsimp only at hcalm
            have HC := hid hcalm.1
            clear hcalm X
            go_wp2
            go_roundg (n - (k + 1))
            case rel => exact ⟨k + 1, by omega, rfl, by rw [HE.out], by go_num, hid (bstep hh.out HC.out)⟩
            case measure => omega
          · obtain rfl : n = k := by omega
            go_wp2
            go_ret2
            exact ⟨rfl, bstep BA.out HBW.out⟩

end Go.Proofs.Ytpmffboojkfpdaa

