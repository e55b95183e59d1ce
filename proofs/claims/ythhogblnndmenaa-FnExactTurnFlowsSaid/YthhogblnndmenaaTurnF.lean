/-
  TurnFlows, in the program and in the reference: the answers.
-/
import Derived.Test.YthhogblnndmenaaTurn
set_option linter.unusedVariables false
set_option linter.unusedSimpArgs false
namespace Go.Proofs.Ythhogblnndmenaa
open Go.RowKit

/-- What TurnFlows returns. -/
noncomputable def turnR (N : Int) (l : List Pip) (fs : List Int) (x : Int) : List Int × Bool := if (goodNet N l && ringB N l) = true ∧ goodFl l.length fs = true ∧ inR x (-8000) 8000 = true ∧ goodFl l.length (turnF (loopS l) fs x l.length) = true then (turnF (loopS l) fs x l.length, true) else ([], false)
theorem turnR_no {N : Int} {l : List Pip} {fs : List Int} {x : Int} (h : (goodNet N l && ringB N l) = false ∨ goodFl l.length fs = false ∨ inR x (-8000) 8000 = false ∨ goodFl l.length (turnF (loopS l) fs x l.length) = false) : turnR N l fs x = ([], false) := by
  unfold turnR
  rw [if_neg]
  rintro ⟨h1, h2, h3, h4⟩
  rcases h with h | h | h | h
  · rw [h1] at h; cases h
  · rw [h2] at h; cases h
  · rw [h3] at h; cases h
  · rw [h4] at h; cases h
theorem turnR_len {N : Int} {l : List Pip} {fs : List Int} {x : Int} {R : List Int} {b : Bool} (h : turnR N l fs x = (R, b)) : R.length ≤ 1000 := by
  unfold turnR at h
  split at h
  · rename_i h1
    cases h
    rw [turnF_len, (goodFl_iff.1 h1.2.1).1]
    have := (goodNet_get ((Bool.and_eq_true _ _).mp h1.1).1).2.1
    omega
  · cases h; simp

set_option maxRecDepth 100000 in
set_option maxHeartbeats 4000000 in
theorem i_TurnFlows (N x : Int) (a b : Option Addr) (n c m d : Nat) (l : List Pip) (fs : List Int) (w : World) (h : QAt w a n l) (h' : IntsAt w b m fs) (hn : n ≤ 1048576) (hm : m ≤ 1048576) (R : List Int) (q : Bool) (hR : turnR N l fs x = (R, q)) :
    Calls Try.prog 34 #[.agg #[.int .i64 N, .slice a n c], .slice b m d, .int .i64 x] w fun e w' => ∃ a' c', e = .returned (.tuple #[.slice a' R.length c', .bool q]) ∧ OwnI w' w.heap.size (.slice a' R.length c') R ∧ Below w.heap.size w w' := by
  have hl := h.1
  have H := hid h
  have H' := hid h'
  clear h h'
  cases h12 : (goodNet N l && ringB N l)
  · rw [turnR_no (.inl h12)] at hR
    cases hR
    obtain ⟨M, rfl⟩ : ∃ M : Int, M = N := ⟨_, rfl⟩
    have HF := hid h12
    clear h12 hl
    go_enter Try.func34, Try.ntmps34
    go_upto_region 1 with fail
    have BA := hid (by go_grown : Below w.heap.size w (w.alloc (.cells #[.int .i64 M, .slice a n c] 31)))
    have N0 := hid (cell_of_row _ _ 0 _ _ (0, 0) (heap_alloc_new w (.cells #[.int .i64 M, .slice a n c] 31)))
    have N1 := hid (cell_of_row _ _ 1 _ _ (0, 0) (heap_alloc_new w (.cells #[.int .i64 M, .slice a n c] 31)))
    have hzA : w.heap.size < (w.alloc (.cells #[.int .i64 M, .slice a n c] 31)).heap.size := by simp
    have n0 := N0.out
    have n1 := N1.out
    simp only [List.getElem?_toArray, List.getElem?_cons_zero, List.getElem?_cons_succ] at n0 n1
    generalize w.alloc (.cells #[.int .i64 M, .slice a n c] 31) = wA at *
    have KA := hid (show ∀ wx, Below wA.heap.size wA wx → (wx.cell? ⟨w.heap.size, 0, none⟩ = some (.int .i64 M) ∧ wx.cell? ⟨w.heap.size, 1, none⟩ = some (.slice a n c)) from fun wx hb => ⟨(hb.cell (p := ⟨w.heap.size, 0, none⟩) hzA).trans n0, (hb.cell (p := ⟨w.heap.size, 1, none⟩) hzA).trans n1⟩)
    go_wp2_with fail
    refine (i_hasRing M _ _ _ l _ (H.out.below BA.out) hn).mono ?_
    rintro e w1 ⟨rfl, hb1⟩
    rw [HF.out]
    have HB1 := hid hb1
    obtain ⟨n0', n1'⟩ := KA.out _ hb1
    have hz1 : w.heap.size < w1.heap.size := World.block_lt_of_cell? w1 _ n0'
    clear n0 n1 hb1
    go_wp2
    go_ret2
    exact ⟨_, _, rfl, OwnI.nil _ _, bstep BA.out HB1.out⟩
  · obtain ⟨h1, h2⟩ := (Bool.and_eq_true _ _).mp h12
    have hN := (goodNet_get h1).1
    obtain ⟨M, rfl⟩ : ∃ M : Nat, N = M := ⟨N.toNat, by omega⟩
    have HF := hid h12
    cases h3 : goodFl n fs
    · rw [turnR_no (.inr (.inl (by rw [hl]; exact h3)))] at hR
      cases hR
      have H3 := hid h3
      clear h1 h2 h12 h3 hl hN
      go_enter Try.func34, Try.ntmps34
      go_upto_region 1 with fail
      have BA := hid (by go_grown : Below w.heap.size w (w.alloc (.cells #[.int .i64 M, .slice a n c] 31)))
      have N0 := hid (cell_of_row _ _ 0 _ _ (0, 0) (heap_alloc_new w (.cells #[.int .i64 M, .slice a n c] 31)))
      have N1 := hid (cell_of_row _ _ 1 _ _ (0, 0) (heap_alloc_new w (.cells #[.int .i64 M, .slice a n c] 31)))
      have hzA : w.heap.size < (w.alloc (.cells #[.int .i64 M, .slice a n c] 31)).heap.size := by simp
      have n0 := N0.out
      have n1 := N1.out
      simp only [List.getElem?_toArray, List.getElem?_cons_zero, List.getElem?_cons_succ] at n0 n1
      generalize w.alloc (.cells #[.int .i64 M, .slice a n c] 31) = wA at *
      have KA := hid (show ∀ wx, Below wA.heap.size wA wx → (wx.cell? ⟨w.heap.size, 0, none⟩ = some (.int .i64 M) ∧ wx.cell? ⟨w.heap.size, 1, none⟩ = some (.slice a n c)) from fun wx hb => ⟨(hb.cell (p := ⟨w.heap.size, 0, none⟩) hzA).trans n0, (hb.cell (p := ⟨w.heap.size, 1, none⟩) hzA).trans n1⟩)
      go_wp2_with fail
      refine (i_hasRing M _ _ _ l _ (H.out.below BA.out) hn).mono ?_
      rintro e w1 ⟨rfl, hb1⟩
      rw [HF.out]
      have HB1 := hid hb1
      obtain ⟨n0', n1'⟩ := KA.out _ hb1
      have hz1 : w.heap.size < w1.heap.size := World.block_lt_of_cell? w1 _ n0'
      clear n0 n1 hb1
      go_wp2_with fail
      refine (i_areFlows _ _ _ n _ _ _ fs _ (H'.out.below (bstep BA.out HB1.out)) hm).mono ?_
      rintro e w3 ⟨rfl, hb3⟩
      rw [H3.out]
      have HB3 := hid (bstep HB1.out hb3)
      go_wp2
      go_ret2
      exact ⟨_, _, rfl, OwnI.nil _ _, bstep BA.out HB3.out⟩
    · have hmn : n = m := by have := (goodFl_iff.1 h3).1; have := H'.out.1; omega
      obtain rfl : n = m := hmn
      have H3 := hid h3
      cases h4 : inR x (-8000) 8000
      · rw [turnR_no (.inr (.inr (.inl h4)))] at hR
        cases hR
        have H4 := hid h4
        clear h1 h2 h12 h3 h4 hl hN
        go_enter Try.func34, Try.ntmps34
        go_upto_region 1 with fail
        have BA := hid (by go_grown : Below w.heap.size w (w.alloc (.cells #[.int .i64 M, .slice a n c] 31)))
        have N0 := hid (cell_of_row _ _ 0 _ _ (0, 0) (heap_alloc_new w (.cells #[.int .i64 M, .slice a n c] 31)))
        have N1 := hid (cell_of_row _ _ 1 _ _ (0, 0) (heap_alloc_new w (.cells #[.int .i64 M, .slice a n c] 31)))
        have hzA : w.heap.size < (w.alloc (.cells #[.int .i64 M, .slice a n c] 31)).heap.size := by simp
        have n0 := N0.out
        have n1 := N1.out
        simp only [List.getElem?_toArray, List.getElem?_cons_zero, List.getElem?_cons_succ] at n0 n1
        generalize w.alloc (.cells #[.int .i64 M, .slice a n c] 31) = wA at *
        have KA := hid (show ∀ wx, Below wA.heap.size wA wx → (wx.cell? ⟨w.heap.size, 0, none⟩ = some (.int .i64 M) ∧ wx.cell? ⟨w.heap.size, 1, none⟩ = some (.slice a n c)) from fun wx hb => ⟨(hb.cell (p := ⟨w.heap.size, 0, none⟩) hzA).trans n0, (hb.cell (p := ⟨w.heap.size, 1, none⟩) hzA).trans n1⟩)
        go_wp2_with fail
        refine (i_hasRing M _ _ _ l _ (H.out.below BA.out) hn).mono ?_
        rintro e w1 ⟨rfl, hb1⟩
        rw [HF.out]
        have HB1 := hid hb1
        obtain ⟨n0', n1'⟩ := KA.out _ hb1
        have hz1 : w.heap.size < w1.heap.size := World.block_lt_of_cell? w1 _ n0'
        clear n0 n1 hb1
        go_wp2_with fail
        refine (i_areFlows _ _ _ n _ _ _ fs _ (H'.out.below (bstep BA.out HB1.out)) hm).mono ?_
        rintro e w3 ⟨rfl, hb3⟩
        rw [H3.out]
        have HB3 := hid (bstep HB1.out hb3)
        go_wp2_with fail
        refine (i_inside _ _ _ _).mono ?_
        rintro e _ ⟨rfl, rfl⟩
        rw [H4.out]
        go_wp2
        go_ret2
        exact ⟨_, _, rfl, OwnI.nil _ _, bstep BA.out HB3.out⟩
      · have H4 := hid h4
        have hx := inR_iff.1 h4
        have HLN := hid hl
        have HFL := hid (goodFl_iff.1 h3)
        have HG := hid h1
        have HR := hid h2
        have hn10 : n ≤ 10 := by have := (goodNet_get h1).2.1; omega
        have hn0 : 0 < n := by have := ((ringB_iff h1).1 h2).1; have := (goodNet_get h1).1; omega
        have HSG := hid (show ∀ i : Nat, i < n → -1 ≤ (loopS l)[i]?.getD 0 ∧ (loopS l)[i]?.getD 0 ≤ 1 from fun i hi => loopS_fit l (by omega))
        cases h5 : goodFl n (turnF (loopS l) fs x n)
        · rw [turnR_no (.inr (.inr (.inr (by rw [hl]; exact h5))))] at hR
          cases hR
          have H5 := hid h5
          clear h1 h2 h12 h3 h4 h5 hl hN
          go_enter Try.func34, Try.ntmps34
          go_upto_region 1 with fail
          have BA := hid (by go_grown : Below w.heap.size w (w.alloc (.cells #[.int .i64 M, .slice a n c] 31)))
          have N0 := hid (cell_of_row _ _ 0 _ _ (0, 0) (heap_alloc_new w (.cells #[.int .i64 M, .slice a n c] 31)))
          have N1 := hid (cell_of_row _ _ 1 _ _ (0, 0) (heap_alloc_new w (.cells #[.int .i64 M, .slice a n c] 31)))
          have hzA : w.heap.size < (w.alloc (.cells #[.int .i64 M, .slice a n c] 31)).heap.size := by simp
          have n0 := N0.out
          have n1 := N1.out
          simp only [List.getElem?_toArray, List.getElem?_cons_zero, List.getElem?_cons_succ] at n0 n1
          generalize w.alloc (.cells #[.int .i64 M, .slice a n c] 31) = wA at *
          have KA := hid (show ∀ wx, Below wA.heap.size wA wx → (wx.cell? ⟨w.heap.size, 0, none⟩ = some (.int .i64 M) ∧ wx.cell? ⟨w.heap.size, 1, none⟩ = some (.slice a n c)) from fun wx hb => ⟨(hb.cell (p := ⟨w.heap.size, 0, none⟩) hzA).trans n0, (hb.cell (p := ⟨w.heap.size, 1, none⟩) hzA).trans n1⟩)
          go_wp2_with fail
          refine (i_hasRing M _ _ _ l _ (H.out.below BA.out) hn).mono ?_
          rintro e w1 ⟨rfl, hb1⟩
          rw [HF.out]
          have HB1 := hid hb1
          obtain ⟨n0', n1'⟩ := KA.out _ hb1
          have hz1 : w.heap.size < w1.heap.size := World.block_lt_of_cell? w1 _ n0'
          clear n0 n1 hb1
          go_wp2_with fail
          refine (i_areFlows _ _ _ n _ _ _ fs _ (H'.out.below (bstep BA.out HB1.out)) hm).mono ?_
          rintro e w3 ⟨rfl, hb3⟩
          rw [H3.out]
          have HB3 := hid (bstep HB1.out hb3)
          go_wp2_with fail
          refine (i_inside _ _ _ _).mono ?_
          rintro e _ ⟨rfl, rfl⟩
          rw [H4.out]
          obtain ⟨k0, k1⟩ := KA.out _ HB3.out
          clear hb3
          go_wp2_with fail
          refine (i_loopOf M _ _ _ l _ (H.out.below (bstep BA.out HB3.out)) HG.out HR.out).mono ?_
          rintro e w4 ⟨a4, c4, rfl, ho4, hb4⟩
          have HB4 := hid (bstep HB3.out hb4)
          have HO4 := hid ho4
          clear k0 k1 ho4 hb4
          go_wp2_with fail
          refine (i_turnFlows _ _ _ _ _ _ fs x _ HO4.out.at (H'.out.below (bstep BA.out HB4.out)) hn10 hn0 HSG.out HFL.out.2 hx).mono ?_
          rintro e w5 ⟨a5, c5, rfl, ho5, hb5⟩
          have HB5 := hid (bstep HB4.out hb5)
          have HO5 := hid ho5
          obtain ⟨k0, k1⟩ := KA.out _ HB5.out
          clear ho5 hb5
          go_wp2_with fail
          refine (i_areFlows _ _ _ n _ _ _ (turnF (loopS l) fs x n) _ HO5.out.at hm).mono ?_
          rintro e w6 ⟨rfl, hb6⟩
          rw [H5.out]
          have HB6 := hid (bstep HB5.out hb6)
          go_wp2
          go_ret2
          exact ⟨_, _, rfl, OwnI.nil _ _, bstep BA.out HB6.out⟩
        · have e0 : turnR M l fs x = (turnF (loopS l) fs x n, true) := by
            unfold turnR
            rw [hl, if_pos ⟨h12, h3, h4, h5⟩]
          rw [e0] at hR
          cases hR
          have H5 := hid h5
          have hlen : (turnF (loopS l) fs x n).length = n := by rw [turnF_len]; exact (goodFl_iff.1 h3).1
          rw [hlen]
          clear h1 h2 h12 h3 h4 h5 hl hN e0
          go_enter Try.func34, Try.ntmps34
          go_upto_region 1 with fail
          have BA := hid (by go_grown : Below w.heap.size w (w.alloc (.cells #[.int .i64 M, .slice a n c] 31)))
          have N0 := hid (cell_of_row _ _ 0 _ _ (0, 0) (heap_alloc_new w (.cells #[.int .i64 M, .slice a n c] 31)))
          have N1 := hid (cell_of_row _ _ 1 _ _ (0, 0) (heap_alloc_new w (.cells #[.int .i64 M, .slice a n c] 31)))
          have hzA : w.heap.size < (w.alloc (.cells #[.int .i64 M, .slice a n c] 31)).heap.size := by simp
          have n0 := N0.out
          have n1 := N1.out
          simp only [List.getElem?_toArray, List.getElem?_cons_zero, List.getElem?_cons_succ] at n0 n1
          generalize w.alloc (.cells #[.int .i64 M, .slice a n c] 31) = wA at *
          have KA := hid (show ∀ wx, Below wA.heap.size wA wx → (wx.cell? ⟨w.heap.size, 0, none⟩ = some (.int .i64 M) ∧ wx.cell? ⟨w.heap.size, 1, none⟩ = some (.slice a n c)) from fun wx hb => ⟨(hb.cell (p := ⟨w.heap.size, 0, none⟩) hzA).trans n0, (hb.cell (p := ⟨w.heap.size, 1, none⟩) hzA).trans n1⟩)
          go_wp2_with fail
          refine (i_hasRing M _ _ _ l _ (H.out.below BA.out) hn).mono ?_
          rintro e w1 ⟨rfl, hb1⟩
          rw [HF.out]
          have HB1 := hid hb1
          obtain ⟨n0', n1'⟩ := KA.out _ hb1
          have hz1 : w.heap.size < w1.heap.size := World.block_lt_of_cell? w1 _ n0'
          clear n0 n1 hb1
          go_wp2_with fail
          refine (i_areFlows _ _ _ n _ _ _ fs _ (H'.out.below (bstep BA.out HB1.out)) hm).mono ?_
          rintro e w3 ⟨rfl, hb3⟩
          rw [H3.out]
          have HB3 := hid (bstep HB1.out hb3)
          go_wp2_with fail
          refine (i_inside _ _ _ _).mono ?_
          rintro e _ ⟨rfl, rfl⟩
          rw [H4.out]
          obtain ⟨k0, k1⟩ := KA.out _ HB3.out
          clear hb3
          go_wp2_with fail
          refine (i_loopOf M _ _ _ l _ (H.out.below (bstep BA.out HB3.out)) HG.out HR.out).mono ?_
          rintro e w4 ⟨a4, c4, rfl, ho4, hb4⟩
          have HB4 := hid (bstep HB3.out hb4)
          have HO4 := hid ho4
          clear k0 k1 ho4 hb4
          go_wp2_with fail
          refine (i_turnFlows _ _ _ _ _ _ fs x _ HO4.out.at (H'.out.below (bstep BA.out HB4.out)) hn10 hn0 HSG.out HFL.out.2 hx).mono ?_
          rintro e w5 ⟨a5, c5, rfl, ho5, hb5⟩
          have HB5 := hid (bstep HB4.out hb5)
          have HO5 := hid ho5
          obtain ⟨k0, k1⟩ := KA.out _ HB5.out
          clear ho5 hb5
          go_wp2_with fail
          refine (i_areFlows _ _ _ n _ _ _ (turnF (loopS l) fs x n) _ HO5.out.at hm).mono ?_
          rintro e w6 ⟨rfl, hb6⟩
          rw [H5.out]
          have HB6 := hid (bstep HB5.out hb6)
          have HO6 := hid ((HO5.out.below hb6).mono (B' := w.heap.size) (Nat.le_trans BA.out.size HB4.out.size))
          go_wp2
          go_ret2
          exact ⟨_, _, rfl, HO6.out, bstep BA.out HB6.out⟩

set_option maxRecDepth 100000 in
set_option maxHeartbeats 4000000 in
theorem s_TurnFlows (N x : Int) (a b : Option Addr) (n c m d : Nat) (l : List Pip) (fs : List Int) (w : World) (h : QAt w a n l) (h' : IntsAt w b m fs) (hn : n ≤ 1048576) (hm : m ≤ 1048576) (hc : n ≤ c) (R : List Int) (q : Bool) (hR : turnR N l fs x = (R, q)) :
    Calls Try.prog 33 #[.agg #[.int .i64 N, .slice a n c], .slice b m d, .int .i64 x] w fun e w' => ∃ a' c', e = .returned (.tuple #[.slice a' R.length c', .bool q]) ∧ OwnI w' w.heap.size (.slice a' R.length c') R ∧ Below w.heap.size w w' := by
  have hl := h.1
  have H := hid h
  have H' := hid h'
  clear h h'
  cases h1 : goodNet N l
  · rw [turnR_no (.inl (by rw [h1]; rfl))] at hR
    cases hR
    obtain ⟨M, rfl⟩ : ∃ M : Int, M = N := ⟨_, rfl⟩
    have HG := hid h1
    clear h1 hl
    go_enter Try.func33, Try.ntmps33
    go_upto_region 1 with fail
    have BA := hid (by go_grown : Below w.heap.size w (w.alloc (.cells #[.int .i64 M, .slice a n c] 31)))
    have N0 := hid (cell_of_row _ _ 0 _ _ (0, 0) (heap_alloc_new w (.cells #[.int .i64 M, .slice a n c] 31)))
    have N1 := hid (cell_of_row _ _ 1 _ _ (0, 0) (heap_alloc_new w (.cells #[.int .i64 M, .slice a n c] 31)))
    have hzA : w.heap.size < (w.alloc (.cells #[.int .i64 M, .slice a n c] 31)).heap.size := by simp
    have n0 := N0.out
    have n1 := N1.out
    simp only [List.getElem?_toArray, List.getElem?_cons_zero, List.getElem?_cons_succ] at n0 n1
    generalize w.alloc (.cells #[.int .i64 M, .slice a n c] 31) = wA at *
    have KA := hid (show ∀ wx, Below wA.heap.size wA wx → (wx.cell? ⟨w.heap.size, 0, none⟩ = some (.int .i64 M) ∧ wx.cell? ⟨w.heap.size, 1, none⟩ = some (.slice a n c)) from fun wx hb => ⟨(hb.cell (p := ⟨w.heap.size, 0, none⟩) hzA).trans n0, (hb.cell (p := ⟨w.heap.size, 1, none⟩) hzA).trans n1⟩)
    go_wp2_with fail
    refine (s_l2Good M _ _ _ l _ (H.out.below BA.out) hn).mono ?_
    rintro e w1 ⟨rfl, hb1⟩
    rw [HG.out]
    have HB1 := hid hb1
    obtain ⟨n0', n1'⟩ := KA.out _ hb1
    have hz1 : w.heap.size < w1.heap.size := World.block_lt_of_cell? w1 _ n0'
    clear n0 n1 hb1
    go_wp2
    go_ret2
    exact ⟨_, _, rfl, (OwnI.lit0 _).mono (bstep BA.out HB1.out).size, bstep (bstep BA.out HB1.out) (by go_grown)⟩
  · have hN := (goodNet_get h1).1
    obtain ⟨M, rfl⟩ : ∃ M : Nat, N = M := ⟨N.toNat, by omega⟩
    have HG := hid h1
    cases h2 : ringB M l
    · rw [turnR_no (.inl (by rw [h1, h2]; rfl))] at hR
      cases hR
      have HR := hid h2
      clear h1 h2 hl hN
      go_enter Try.func33, Try.ntmps33
      go_upto_region 1 with fail
      have BA := hid (by go_grown : Below w.heap.size w (w.alloc (.cells #[.int .i64 M, .slice a n c] 31)))
      have N0 := hid (cell_of_row _ _ 0 _ _ (0, 0) (heap_alloc_new w (.cells #[.int .i64 M, .slice a n c] 31)))
      have N1 := hid (cell_of_row _ _ 1 _ _ (0, 0) (heap_alloc_new w (.cells #[.int .i64 M, .slice a n c] 31)))
      have hzA : w.heap.size < (w.alloc (.cells #[.int .i64 M, .slice a n c] 31)).heap.size := by simp
      have n0 := N0.out
      have n1 := N1.out
      simp only [List.getElem?_toArray, List.getElem?_cons_zero, List.getElem?_cons_succ] at n0 n1
      generalize w.alloc (.cells #[.int .i64 M, .slice a n c] 31) = wA at *
      have KA := hid (show ∀ wx, Below wA.heap.size wA wx → (wx.cell? ⟨w.heap.size, 0, none⟩ = some (.int .i64 M) ∧ wx.cell? ⟨w.heap.size, 1, none⟩ = some (.slice a n c)) from fun wx hb => ⟨(hb.cell (p := ⟨w.heap.size, 0, none⟩) hzA).trans n0, (hb.cell (p := ⟨w.heap.size, 1, none⟩) hzA).trans n1⟩)
      go_wp2_with fail
      refine (s_l2Good M _ _ _ l _ (H.out.below BA.out) hn).mono ?_
      rintro e w1 ⟨rfl, hb1⟩
      rw [HG.out]
      have HB1 := hid hb1
      obtain ⟨n0', n1'⟩ := KA.out _ hb1
      have hz1 : w.heap.size < w1.heap.size := World.block_lt_of_cell? w1 _ n0'
      clear n0 n1 hb1
      go_wp2_with fail
      refine (s_l10Ring M _ _ _ l _ (H.out.below (bstep BA.out HB1.out)) HG.out).mono ?_
      rintro e w2 ⟨rfl, hb2⟩
      rw [HR.out]
      have HB2 := hid (bstep HB1.out hb2)
      obtain ⟨m0, m1⟩ := KA.out _ HB2.out
      have hz2 : w.heap.size < w2.heap.size := World.block_lt_of_cell? w2 _ m0
      clear n0' n1' hb2
      go_wp2
      go_ret2
      exact ⟨_, _, rfl, (OwnI.lit0 _).mono (bstep BA.out HB2.out).size, bstep (bstep BA.out HB2.out) (by go_grown)⟩
    · have HR := hid h2
      have h12 : (goodNet M l && ringB M l) = true := by rw [h1, h2]; rfl
      cases h3 : goodFl n fs
      · rw [turnR_no (.inr (.inl (by rw [hl]; exact h3)))] at hR
        cases hR
        have H3 := hid h3
        clear h1 h2 h12 h3 hl hN
        go_enter Try.func33, Try.ntmps33
        go_upto_region 1 with fail
        have BA := hid (by go_grown : Below w.heap.size w (w.alloc (.cells #[.int .i64 M, .slice a n c] 31)))
        have N0 := hid (cell_of_row _ _ 0 _ _ (0, 0) (heap_alloc_new w (.cells #[.int .i64 M, .slice a n c] 31)))
        have N1 := hid (cell_of_row _ _ 1 _ _ (0, 0) (heap_alloc_new w (.cells #[.int .i64 M, .slice a n c] 31)))
        have hzA : w.heap.size < (w.alloc (.cells #[.int .i64 M, .slice a n c] 31)).heap.size := by simp
        have n0 := N0.out
        have n1 := N1.out
        simp only [List.getElem?_toArray, List.getElem?_cons_zero, List.getElem?_cons_succ] at n0 n1
        generalize w.alloc (.cells #[.int .i64 M, .slice a n c] 31) = wA at *
        have KA := hid (show ∀ wx, Below wA.heap.size wA wx → (wx.cell? ⟨w.heap.size, 0, none⟩ = some (.int .i64 M) ∧ wx.cell? ⟨w.heap.size, 1, none⟩ = some (.slice a n c)) from fun wx hb => ⟨(hb.cell (p := ⟨w.heap.size, 0, none⟩) hzA).trans n0, (hb.cell (p := ⟨w.heap.size, 1, none⟩) hzA).trans n1⟩)
        go_wp2_with fail
        refine (s_l2Good M _ _ _ l _ (H.out.below BA.out) hn).mono ?_
        rintro e w1 ⟨rfl, hb1⟩
        rw [HG.out]
        have HB1 := hid hb1
        obtain ⟨n0', n1'⟩ := KA.out _ hb1
        have hz1 : w.heap.size < w1.heap.size := World.block_lt_of_cell? w1 _ n0'
        clear n0 n1 hb1
        go_wp2_with fail
        refine (s_l10Ring M _ _ _ l _ (H.out.below (bstep BA.out HB1.out)) HG.out).mono ?_
        rintro e w2 ⟨rfl, hb2⟩
        rw [HR.out]
        have HB2 := hid (bstep HB1.out hb2)
        obtain ⟨m0, m1⟩ := KA.out _ HB2.out
        have hz2 : w.heap.size < w2.heap.size := World.block_lt_of_cell? w2 _ m0
        clear n0' n1' hb2
        go_wp2_with fail
        refine (s_l8Flows _ _ _ n _ _ _ fs _ (H'.out.below (bstep BA.out HB2.out)) hm).mono ?_
        rintro e w3 ⟨rfl, hb3⟩
        rw [H3.out]
        have HB3 := hid (bstep HB2.out hb3)
        go_wp2
        go_ret2
        exact ⟨_, _, rfl, (OwnI.lit0 _).mono (bstep BA.out HB3.out).size, bstep (bstep BA.out HB3.out) (by go_grown)⟩
      · have hmn : n = m := by have := (goodFl_iff.1 h3).1; have := H'.out.1; omega
        obtain rfl : n = m := hmn
        have H3 := hid h3
        cases h4 : inR x (-8000) 8000
        · rw [turnR_no (.inr (.inr (.inl h4)))] at hR
          cases hR
          have H4 := hid h4
          clear h1 h2 h12 h3 h4 hl hN
          go_enter Try.func33, Try.ntmps33
          go_upto_region 1 with fail
          have BA := hid (by go_grown : Below w.heap.size w (w.alloc (.cells #[.int .i64 M, .slice a n c] 31)))
          have N0 := hid (cell_of_row _ _ 0 _ _ (0, 0) (heap_alloc_new w (.cells #[.int .i64 M, .slice a n c] 31)))
          have N1 := hid (cell_of_row _ _ 1 _ _ (0, 0) (heap_alloc_new w (.cells #[.int .i64 M, .slice a n c] 31)))
          have hzA : w.heap.size < (w.alloc (.cells #[.int .i64 M, .slice a n c] 31)).heap.size := by simp
          have n0 := N0.out
          have n1 := N1.out
          simp only [List.getElem?_toArray, List.getElem?_cons_zero, List.getElem?_cons_succ] at n0 n1
          generalize w.alloc (.cells #[.int .i64 M, .slice a n c] 31) = wA at *
          have KA := hid (show ∀ wx, Below wA.heap.size wA wx → (wx.cell? ⟨w.heap.size, 0, none⟩ = some (.int .i64 M) ∧ wx.cell? ⟨w.heap.size, 1, none⟩ = some (.slice a n c)) from fun wx hb => ⟨(hb.cell (p := ⟨w.heap.size, 0, none⟩) hzA).trans n0, (hb.cell (p := ⟨w.heap.size, 1, none⟩) hzA).trans n1⟩)
          go_wp2_with fail
          refine (s_l2Good M _ _ _ l _ (H.out.below BA.out) hn).mono ?_
          rintro e w1 ⟨rfl, hb1⟩
          rw [HG.out]
          have HB1 := hid hb1
          obtain ⟨n0', n1'⟩ := KA.out _ hb1
          have hz1 : w.heap.size < w1.heap.size := World.block_lt_of_cell? w1 _ n0'
          clear n0 n1 hb1
          go_wp2_with fail
          refine (s_l10Ring M _ _ _ l _ (H.out.below (bstep BA.out HB1.out)) HG.out).mono ?_
          rintro e w2 ⟨rfl, hb2⟩
          rw [HR.out]
          have HB2 := hid (bstep HB1.out hb2)
          obtain ⟨m0, m1⟩ := KA.out _ HB2.out
          have hz2 : w.heap.size < w2.heap.size := World.block_lt_of_cell? w2 _ m0
          clear n0' n1' hb2
          go_wp2_with fail
          refine (s_l8Flows _ _ _ n _ _ _ fs _ (H'.out.below (bstep BA.out HB2.out)) hm).mono ?_
          rintro e w3 ⟨rfl, hb3⟩
          rw [H3.out]
          have HB3 := hid (bstep HB2.out hb3)
          go_wp2_with fail
          refine (s_l1In _ _ _ _).mono ?_
          rintro e _ ⟨rfl, rfl⟩
          rw [H4.out]
          go_wp2
          go_ret2
          exact ⟨_, _, rfl, (OwnI.lit0 _).mono (bstep BA.out HB3.out).size, bstep (bstep BA.out HB3.out) (by go_grown)⟩
        · have H4 := hid h4
          have hx := inR_iff.1 h4
          have HLN := hid hl
          have HFL := hid (goodFl_iff.1 h3)
          have hn10 : n ≤ 10 := by have := (goodNet_get h1).2.1; omega
          have hn0 : 0 < n := by have := ((ringB_iff h1).1 h2).1; have := (goodNet_get h1).1; omega
          have HSG := hid (show ∀ i : Nat, i < n → -1 ≤ (loopS l)[i]?.getD 0 ∧ (loopS l)[i]?.getD 0 ≤ 1 from fun i hi => loopS_fit l (by omega))
          cases h5 : goodFl n (turnF (loopS l) fs x n)
          · rw [turnR_no (.inr (.inr (.inr (by rw [hl]; exact h5))))] at hR
            cases hR
            have H5 := hid h5
            clear h1 h2 h12 h3 h4 h5 hl hN
            go_enter Try.func33, Try.ntmps33
            go_upto_region 1 with fail
            have BA := hid (by go_grown : Below w.heap.size w (w.alloc (.cells #[.int .i64 M, .slice a n c] 31)))
            have N0 := hid (cell_of_row _ _ 0 _ _ (0, 0) (heap_alloc_new w (.cells #[.int .i64 M, .slice a n c] 31)))
            have N1 := hid (cell_of_row _ _ 1 _ _ (0, 0) (heap_alloc_new w (.cells #[.int .i64 M, .slice a n c] 31)))
            have hzA : w.heap.size < (w.alloc (.cells #[.int .i64 M, .slice a n c] 31)).heap.size := by simp
            have n0 := N0.out
            have n1 := N1.out
            simp only [List.getElem?_toArray, List.getElem?_cons_zero, List.getElem?_cons_succ] at n0 n1
            generalize w.alloc (.cells #[.int .i64 M, .slice a n c] 31) = wA at *
            have KA := hid (show ∀ wx, Below wA.heap.size wA wx → (wx.cell? ⟨w.heap.size, 0, none⟩ = some (.int .i64 M) ∧ wx.cell? ⟨w.heap.size, 1, none⟩ = some (.slice a n c)) from fun wx hb => ⟨(hb.cell (p := ⟨w.heap.size, 0, none⟩) hzA).trans n0, (hb.cell (p := ⟨w.heap.size, 1, none⟩) hzA).trans n1⟩)
            go_wp2_with fail
            refine (s_l2Good M _ _ _ l _ (H.out.below BA.out) hn).mono ?_
            rintro e w1 ⟨rfl, hb1⟩
            rw [HG.out]
            have HB1 := hid hb1
            obtain ⟨n0', n1'⟩ := KA.out _ hb1
            have hz1 : w.heap.size < w1.heap.size := World.block_lt_of_cell? w1 _ n0'
            clear n0 n1 hb1
            go_wp2_with fail
            refine (s_l10Ring M _ _ _ l _ (H.out.below (bstep BA.out HB1.out)) HG.out).mono ?_
            rintro e w2 ⟨rfl, hb2⟩
            rw [HR.out]
            have HB2 := hid (bstep HB1.out hb2)
            obtain ⟨m0, m1⟩ := KA.out _ HB2.out
            have hz2 : w.heap.size < w2.heap.size := World.block_lt_of_cell? w2 _ m0
            clear n0' n1' hb2
            go_wp2_with fail
            refine (s_l8Flows _ _ _ n _ _ _ fs _ (H'.out.below (bstep BA.out HB2.out)) hm).mono ?_
            rintro e w3 ⟨rfl, hb3⟩
            rw [H3.out]
            have HB3 := hid (bstep HB2.out hb3)
            go_wp2_with fail
            refine (s_l1In _ _ _ _).mono ?_
            rintro e _ ⟨rfl, rfl⟩
            rw [H4.out]
            obtain ⟨k0, k1⟩ := KA.out _ HB3.out
            clear hb3
            go_wp2_with fail
            refine (s_l10Loop M _ _ _ l _ (H.out.below (bstep BA.out HB3.out)) HG.out HR.out hc).mono ?_
            rintro e w4 ⟨a4, c4, rfl, ho4, hb4⟩
            have HB4 := hid (bstep HB3.out hb4)
            have HO4 := hid ho4
            clear k0 k1 ho4 hb4
            go_wp2_with fail
            refine (s_l10Turn _ _ _ _ _ _ fs x _ HO4.out.at (H'.out.below (bstep BA.out HB4.out)) hn10 hn0 HSG.out HFL.out.2 hx).mono ?_
            rintro e w5 ⟨a5, c5, rfl, ho5, hb5⟩
            have HB5 := hid (bstep HB4.out hb5)
            have HO5 := hid ho5
            obtain ⟨k0, k1⟩ := KA.out _ HB5.out
            clear ho5 hb5
            go_wp2_with fail
            refine (s_l8Flows _ _ _ n _ _ _ (turnF (loopS l) fs x n) _ HO5.out.at hm).mono ?_
            rintro e w6 ⟨rfl, hb6⟩
            rw [H5.out]
            have HB6 := hid (bstep HB5.out hb6)
            go_wp2
            go_ret2
            exact ⟨_, _, rfl, (OwnI.lit0 _).mono (bstep BA.out HB6.out).size, bstep (bstep BA.out HB6.out) (by go_grown)⟩
          · have e0 : turnR M l fs x = (turnF (loopS l) fs x n, true) := by
              unfold turnR
              rw [hl, if_pos ⟨h12, h3, h4, h5⟩]
            rw [e0] at hR
            cases hR
            have H5 := hid h5
            have hlen : (turnF (loopS l) fs x n).length = n := by rw [turnF_len]; exact (goodFl_iff.1 h3).1
            rw [hlen]
            clear h1 h2 h12 h3 h4 h5 hl hN e0
            go_enter Try.func33, Try.ntmps33
            go_upto_region 1 with fail
            have BA := hid (by go_grown : Below w.heap.size w (w.alloc (.cells #[.int .i64 M, .slice a n c] 31)))
            have N0 := hid (cell_of_row _ _ 0 _ _ (0, 0) (heap_alloc_new w (.cells #[.int .i64 M, .slice a n c] 31)))
            have N1 := hid (cell_of_row _ _ 1 _ _ (0, 0) (heap_alloc_new w (.cells #[.int .i64 M, .slice a n c] 31)))
            have hzA : w.heap.size < (w.alloc (.cells #[.int .i64 M, .slice a n c] 31)).heap.size := by simp
            have n0 := N0.out
            have n1 := N1.out
            simp only [List.getElem?_toArray, List.getElem?_cons_zero, List.getElem?_cons_succ] at n0 n1
            generalize w.alloc (.cells #[.int .i64 M, .slice a n c] 31) = wA at *
            have KA := hid (show ∀ wx, Below wA.heap.size wA wx → (wx.cell? ⟨w.heap.size, 0, none⟩ = some (.int .i64 M) ∧ wx.cell? ⟨w.heap.size, 1, none⟩ = some (.slice a n c)) from fun wx hb => ⟨(hb.cell (p := ⟨w.heap.size, 0, none⟩) hzA).trans n0, (hb.cell (p := ⟨w.heap.size, 1, none⟩) hzA).trans n1⟩)
            go_wp2_with fail
            refine (s_l2Good M _ _ _ l _ (H.out.below BA.out) hn).mono ?_
            rintro e w1 ⟨rfl, hb1⟩
            rw [HG.out]
            have HB1 := hid hb1
            obtain ⟨n0', n1'⟩ := KA.out _ hb1
            have hz1 : w.heap.size < w1.heap.size := World.block_lt_of_cell? w1 _ n0'
            clear n0 n1 hb1
            go_wp2_with fail
            refine (s_l10Ring M _ _ _ l _ (H.out.below (bstep BA.out HB1.out)) HG.out).mono ?_
            rintro e w2 ⟨rfl, hb2⟩
            rw [HR.out]
            have HB2 := hid (bstep HB1.out hb2)
            obtain ⟨m0, m1⟩ := KA.out _ HB2.out
            have hz2 : w.heap.size < w2.heap.size := World.block_lt_of_cell? w2 _ m0
            clear n0' n1' hb2
            go_wp2_with fail
            refine (s_l8Flows _ _ _ n _ _ _ fs _ (H'.out.below (bstep BA.out HB2.out)) hm).mono ?_
            rintro e w3 ⟨rfl, hb3⟩
            rw [H3.out]
            have HB3 := hid (bstep HB2.out hb3)
            go_wp2_with fail
            refine (s_l1In _ _ _ _).mono ?_
            rintro e _ ⟨rfl, rfl⟩
            rw [H4.out]
            obtain ⟨k0, k1⟩ := KA.out _ HB3.out
            clear hb3
            go_wp2_with fail
            refine (s_l10Loop M _ _ _ l _ (H.out.below (bstep BA.out HB3.out)) HG.out HR.out hc).mono ?_
            rintro e w4 ⟨a4, c4, rfl, ho4, hb4⟩
            have HB4 := hid (bstep HB3.out hb4)
            have HO4 := hid ho4
            clear k0 k1 ho4 hb4
            go_wp2_with fail
            refine (s_l10Turn _ _ _ _ _ _ fs x _ HO4.out.at (H'.out.below (bstep BA.out HB4.out)) hn10 hn0 HSG.out HFL.out.2 hx).mono ?_
            rintro e w5 ⟨a5, c5, rfl, ho5, hb5⟩
            have HB5 := hid (bstep HB4.out hb5)
            have HO5 := hid ho5
            obtain ⟨k0, k1⟩ := KA.out _ HB5.out
            clear ho5 hb5
            go_wp2_with fail
            refine (s_l8Flows _ _ _ n _ _ _ (turnF (loopS l) fs x n) _ HO5.out.at hm).mono ?_
            rintro e w6 ⟨rfl, hb6⟩
            rw [H5.out]
            have HB6 := hid (bstep HB5.out hb6)
            have HO6 := hid ((HO5.out.below hb6).mono (B' := w.heap.size) (Nat.le_trans BA.out.size HB4.out.size))
            go_wp2
            go_ret2
            exact ⟨_, _, rfl, HO6.out, bstep BA.out HB6.out⟩

end Go.Proofs.Ythhogblnndmenaa
