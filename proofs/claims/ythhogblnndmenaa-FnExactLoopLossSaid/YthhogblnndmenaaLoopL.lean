/-
  LoopLoss, in the program and in the reference.
-/
import Derived.Test.YthhogblnndmenaaLoopI
import Derived.Test.YthhogblnndmenaaLoopS
import Derived.Test.YthhogblnndmenaaRingF
import Derived.Test.YthhogblnndmenaaNetL
set_option linter.unusedVariables false
set_option linter.unusedSimpArgs false
namespace Go.Proofs.Ythhogblnndmenaa
open Go.RowKit

/-- The losses along the loop. -/
noncomputable def lloss (l : List Pip) (fs : List Int) : Nat → Int
  | 0 => 0
  | k + 1 => lloss l fs k + (loopS l)[k]?.getD 0 * loss l fs k
theorem loss_in {N : Int} {l : List Pip} {fs : List Int} {k : Nat} (hg : goodNet N l = true) (hf : goodFl l.length fs = true) (hk : k < l.length) : -576000000 ≤ loss l fs k ∧ loss l fs k ≤ 576000000 :=
  (loss_fit (goodNet_pipe hg hk).2.2.2.2 ((goodFl_iff.1 hf).2 _ (getD_mem fs k (by have := (goodFl_iff.1 hf).1; omega)))).2
theorem lloss_step {N : Int} {l : List Pip} {fs : List Int} {k : Nat} (hg : goodNet N l = true) (hf : goodFl l.length fs = true) (hk : k < l.length) : -576000000 ≤ (loopS l)[k]?.getD 0 * loss l fs k ∧ (loopS l)[k]?.getD 0 * loss l fs k ≤ 576000000 := by
  have h1 := loopS_fit l hk
  have h2 := loss_in hg hf hk
  have h3 : (loopS l)[k]?.getD 0 = -1 ∨ (loopS l)[k]?.getD 0 = 0 ∨ (loopS l)[k]?.getD 0 = 1 := by omega
  rcases h3 with h3 | h3 | h3 <;> rw [h3] <;> omega
theorem lloss_fit {N : Int} {l : List Pip} {fs : List Int} (hg : goodNet N l = true) (hf : goodFl l.length fs = true) : ∀ k : Nat, k ≤ l.length → -(576000000 * (k : Int)) ≤ lloss l fs k ∧ lloss l fs k ≤ 576000000 * (k : Int)
  | 0, _ => by simp [lloss]
  | k + 1, hk => by
    have h1 := lloss_fit hg hf k (by omega)
    have h2 := lloss_step hg hf (k := k) (by omega)
    unfold lloss
    omega
/-- What LoopLoss returns. -/
noncomputable def llossR (N : Int) (l : List Pip) (fs : List Int) : Int × Bool := if (goodNet N l && ringB N l) = true ∧ goodFl l.length fs = true then (lloss l fs l.length, true) else (0, false)
theorem llossR_no {N : Int} {l : List Pip} {fs : List Int} (h : (goodNet N l && ringB N l) = false ∨ goodFl l.length fs = false) : llossR N l fs = (0, false) := by
  unfold llossR
  rw [if_neg]
  rintro ⟨h1, h2⟩
  rcases h with h | h
  · rw [h1] at h; cases h
  · rw [h2] at h; cases h

abbrev RowC (W1 : World) (z b0 k g b1 off1 : Nat) (off0 n c : Nat) (p0 p1 p2 p3 s x : Int) (w' : World) : Prop :=
  Below W1.heap.size W1 w' ∧ w'.cell? ⟨z, 1, none⟩ = some (.slice (some ⟨b0, off0, none⟩) n c) ∧ w'.cell? ⟨b0, off0 + k * 4, none⟩ = some (.int .i64 p0) ∧ w'.cell? ⟨b0, off0 + k * 4 + 1, none⟩ = some (.int .i64 p1) ∧ w'.cell? ⟨b0, off0 + k * 4 + 2, none⟩ = some (.int .i64 p2) ∧ w'.cell? ⟨b0, off0 + k * 4 + 3, none⟩ = some (.int .i64 p3) ∧ w'.cell? ⟨g, k, none⟩ = some (.int .i64 s) ∧ w'.cell? ⟨b1, off1 + k, none⟩ = some (.int .i64 x)
theorem RowC.keep (W1 : World) (z b0 k g b1 off1 : Nat) (off0 n c : Nat) (p0 p1 p2 p3 s x : Int) (wy w5 : World) (h : RowC W1 z b0 k g b1 off1 off0 n c p0 p1 p2 p3 s x wy) (hb : Below wy.heap.size wy w5) : RowC W1 z b0 k g b1 off1 off0 n c p0 p1 p2 p3 s x w5 := by
  obtain ⟨h0, h1, h2, h3, h4, h5, h6, h7⟩ := h
  exact ⟨bstep h0 hb, (hb.cell (World.block_lt_of_cell? wy _ h1)).trans h1, (hb.cell (World.block_lt_of_cell? wy _ h2)).trans h2, (hb.cell (World.block_lt_of_cell? wy _ h3)).trans h3, (hb.cell (World.block_lt_of_cell? wy _ h4)).trans h4, (hb.cell (World.block_lt_of_cell? wy _ h5)).trans h5, (hb.cell (World.block_lt_of_cell? wy _ h6)).trans h6, (hb.cell (World.block_lt_of_cell? wy _ h7)).trans h7⟩

set_option maxRecDepth 100000 in
set_option maxHeartbeats 4000000 in
theorem i_LoopLoss (N : Int) (a b : Option Addr) (n c m d : Nat) (l : List Pip) (fs : List Int) (w : World) (h : QAt w a n l) (h' : IntsAt w b m fs) (hn : n ≤ 1048576) (hm : m ≤ 1048576) (x : Int) (y : Bool) (hR : llossR N l fs = (x, y)) :
    Calls Try.prog 29 #[.agg #[.int .i64 N, .slice a n c], .slice b m d] w fun e w' => e = .returned (.tuple #[.int .i64 x, .bool y]) ∧ Below w.heap.size w w' := by
  have hl := h.1
  have H := hid h
  have H' := hid h'
  clear h h'
  cases h12 : (goodNet N l && ringB N l)
  · rw [llossR_no (.inl h12)] at hR
    cases hR
    obtain ⟨M, rfl⟩ : ∃ M : Int, M = N := ⟨_, rfl⟩
    have HF := hid h12
    clear h12 hl
    go_enter Try.func29, Try.ntmps29
    go_upto_region 1 with fail
    have BA := hid (by go_grown : Below w.heap.size w (w.alloc (.cells #[.int .i64 M, .slice a n c] 31)))
    have N0 := hid (cell_of_row _ _ 0 _ _ (0, 0) (heap_alloc_new w (.cells #[.int .i64 M, .slice a n c] 31)))
    have N1 := hid (cell_of_row _ _ 1 _ _ (0, 0) (heap_alloc_new w (.cells #[.int .i64 M, .slice a n c] 31)))
    have hzA : w.heap.size < (w.alloc (.cells #[.int .i64 M, .slice a n c] 31)).heap.size := by simp
    have n0 := N0.out
    have n1 := N1.out
    simp only [List.getElem?_toArray, List.getElem?_cons_zero, List.getElem?_cons_succ] at n0 n1
    generalize w.alloc (.cells #[.int .i64 M, .slice a n c] 31) = wA at *
    have KA := hid (show ∀ wx, Below wA.heap.size wA wx → (wx.cell? ⟨w.heap.size, 0, none⟩ = some (.int .i64 M) ∧ wx.cell? ⟨w.heap.size, 1, none⟩ = some (.slice a n c)) from fun wx hb => ⟨(hb.cell (p := ⟨w.heap.size, 0, none⟩) hzA).trans n0, (hb.cell (p := ⟨w.heap.size, 1, none⟩) hzA).trans n1⟩)
    go_wp2_with fail
    refine (i_hasRing M _ _ _ l _ (H.out.below BA.out) hn).mono ?_
    rintro e w1 ⟨rfl, hb1⟩
    rw [HF.out]
    have HB1 := hid hb1
    obtain ⟨n0', n1'⟩ := KA.out _ hb1
    have hz1 : w.heap.size < w1.heap.size := World.block_lt_of_cell? w1 _ n0'
    clear n0 n1 hb1
    go_wp2
    go_ret2
    exact ⟨rfl, bstep BA.out HB1.out⟩
  · obtain ⟨h1, h2⟩ := (Bool.and_eq_true _ _).mp h12
    have hN := (goodNet_get h1).1
    obtain ⟨M, rfl⟩ : ∃ M : Nat, N = M := ⟨N.toNat, by omega⟩
    have HF := hid h12
    cases h3 : goodFl n fs
    · rw [llossR_no (.inr (by rw [hl]; exact h3))] at hR
      cases hR
      have H3 := hid h3
      clear h1 h2 h12 h3 hl hN
      go_enter Try.func29, Try.ntmps29
      go_upto_region 1 with fail
      have BA := hid (by go_grown : Below w.heap.size w (w.alloc (.cells #[.int .i64 M, .slice a n c] 31)))
      have N0 := hid (cell_of_row _ _ 0 _ _ (0, 0) (heap_alloc_new w (.cells #[.int .i64 M, .slice a n c] 31)))
      have N1 := hid (cell_of_row _ _ 1 _ _ (0, 0) (heap_alloc_new w (.cells #[.int .i64 M, .slice a n c] 31)))
      have hzA : w.heap.size < (w.alloc (.cells #[.int .i64 M, .slice a n c] 31)).heap.size := by simp
      have n0 := N0.out
      have n1 := N1.out
      simp only [List.getElem?_toArray, List.getElem?_cons_zero, List.getElem?_cons_succ] at n0 n1
      generalize w.alloc (.cells #[.int .i64 M, .slice a n c] 31) = wA at *
      have KA := hid (show ∀ wx, Below wA.heap.size wA wx → (wx.cell? ⟨w.heap.size, 0, none⟩ = some (.int .i64 M) ∧ wx.cell? ⟨w.heap.size, 1, none⟩ = some (.slice a n c)) from fun wx hb => ⟨(hb.cell (p := ⟨w.heap.size, 0, none⟩) hzA).trans n0, (hb.cell (p := ⟨w.heap.size, 1, none⟩) hzA).trans n1⟩)
      go_wp2_with fail
      refine (i_hasRing M _ _ _ l _ (H.out.below BA.out) hn).mono ?_
      rintro e w1 ⟨rfl, hb1⟩
      rw [HF.out]
      have HB1 := hid hb1
      obtain ⟨n0', n1'⟩ := KA.out _ hb1
      have hz1 : w.heap.size < w1.heap.size := World.block_lt_of_cell? w1 _ n0'
      clear n0 n1 hb1
      go_wp2_with fail
      refine (i_areFlows _ _ _ n _ _ _ fs _ (H'.out.below (bstep BA.out HB1.out)) hm).mono ?_
      rintro e w2 ⟨rfl, hb2⟩
      rw [H3.out]
      go_wp2
      go_ret2
      exact ⟨rfl, bstep BA.out (bstep HB1.out hb2)⟩
    · obtain rfl : n = m := by have := (goodFl_iff.1 h3).1; have := H'.out.1; omega
      have e0 : llossR M l fs = (lloss l fs n, true) := by
        unfold llossR
        rw [if_pos ⟨h12, by rw [hl]; exact h3⟩, hl]
      rw [e0] at hR
      cases hR
      have H3 := hid h3
      have HFL := hid (show goodFl l.length fs = true by rw [hl]; exact h3)
      have HLN := hid hl
      have HG := hid h1
      have HR := hid h2
      have hn10 : n ≤ 10 := by have := (goodNet_get h1).2.1; omega
      clear h1 h2 h12 h3 hl hN e0
      go_enter Try.func29, Try.ntmps29
      go_upto_region 1 with fail
      have BA := hid (by go_grown : Below w.heap.size w (w.alloc (.cells #[.int .i64 M, .slice a n c] 31)))
      have N0 := hid (cell_of_row _ _ 0 _ _ (0, 0) (heap_alloc_new w (.cells #[.int .i64 M, .slice a n c] 31)))
      have N1 := hid (cell_of_row _ _ 1 _ _ (0, 0) (heap_alloc_new w (.cells #[.int .i64 M, .slice a n c] 31)))
      have hzA : w.heap.size < (w.alloc (.cells #[.int .i64 M, .slice a n c] 31)).heap.size := by simp
      have n0 := N0.out
      have n1 := N1.out
      simp only [List.getElem?_toArray, List.getElem?_cons_zero, List.getElem?_cons_succ] at n0 n1
      generalize w.alloc (.cells #[.int .i64 M, .slice a n c] 31) = wA at *
      have KA := hid (show ∀ wx, Below wA.heap.size wA wx → (wx.cell? ⟨w.heap.size, 0, none⟩ = some (.int .i64 M) ∧ wx.cell? ⟨w.heap.size, 1, none⟩ = some (.slice a n c)) from fun wx hb => ⟨(hb.cell (p := ⟨w.heap.size, 0, none⟩) hzA).trans n0, (hb.cell (p := ⟨w.heap.size, 1, none⟩) hzA).trans n1⟩)
      go_wp2_with fail
      refine (i_hasRing M _ _ _ l _ (H.out.below BA.out) hn).mono ?_
      rintro e w1 ⟨rfl, hb1⟩
      rw [HF.out]
      have HB1 := hid hb1
      obtain ⟨n0', n1'⟩ := KA.out _ hb1
      have hz1 : w.heap.size < w1.heap.size := World.block_lt_of_cell? w1 _ n0'
      clear n0 n1 hb1
      go_wp2_with fail
      refine (i_areFlows _ _ _ n _ _ _ fs _ (H'.out.below (bstep BA.out HB1.out)) hm).mono ?_
      rintro e w2 ⟨rfl, hb2⟩
      rw [H3.out]
      have HB2 := hid (bstep HB1.out hb2)
      obtain ⟨m0, m1⟩ := KA.out _ HB2.out
      clear n0' n1' hb2 hz1
      go_wp2_with fail
      refine (i_loopOf M _ _ _ l _ (H.out.below (bstep BA.out HB2.out)) HG.out HR.out).mono ?_
      rintro e w3 ⟨a3, c3, rfl, ho3, hb3⟩
      have HO3 := hid ho3
      have HB3 := hid (bstep HB2.out hb3)
      obtain ⟨n0, n1⟩ := KA.out _ HB3.out
      have hz3 : w.heap.size < w3.heap.size := World.block_lt_of_cell? w3 _ n0
      clear m0 m1 ho3 hb3
      go_wp2
      go_loopg [6, 21] n (fun g s i wr => ∃ k : Nat, k ≤ n ∧ g = n - k ∧ s = .int .i64 (lloss l fs k) ∧ i = .int .i64 k ∧ Hid (Below w3.heap.size w3 wr))
      case atStart => exact ⟨0, Nat.zero_le _, rfl, rfl, rfl, hid (Below.refl _ _)⟩
      case round =>
        obtain ⟨k, hk, rfl, rfl, rfl, hh⟩ := hrel
        clear n0 n1
        have HBW := hid (bstep HB3.out hh.out)
        obtain ⟨n0, n1⟩ := KA.out _ HBW.out
        by_cases hlt : k < n
        · obtain ⟨g3, rfl, hg31, hg32⟩ := own_some HO3.out (by omega)
          have hcl := (HO3.out.below hh.out).cell (k := k) hlt
          have hkl : k < l.length := by have := HLN.out; omega
          have f1 := lloss_fit HG.out HFL.out k (by omega)
          have f2 := lloss_step HG.out HFL.out hkl
          have f3 := loss_in HG.out HFL.out hkl
          have hw1 := IntWalk.i64_in ((loopS l)[k]?.getD 0 * loss l fs k) (by omega)
          have hw2 := IntWalk.i64_in (lloss l fs k + (loopS l)[k]?.getD 0 * loss l fs k) (by omega)
          go_wp2_with fail
          refine (i_lossOf _ _ _ _ _ _ k l fs _ (H.out.below (bstep BA.out HBW.out)) (H'.out.below (bstep BA.out HBW.out)) HG.out H3.out hlt).mono ?_
          rintro e w5 ⟨rfl, hb5⟩
          have HB5 := hid (bstep hh.out hb5)
          clear hb5
          go_wp2
          go_roundg (n - (k + 1))
          case rel => exact ⟨k + 1, by omega, rfl, by rw [lloss], by go_num, HB5⟩
          case measure => omega
        · obtain rfl : n = k := by omega
          go_wp2
          go_ret2
          exact ⟨rfl, bstep BA.out HBW.out⟩

set_option maxRecDepth 100000 in
set_option maxHeartbeats 4000000 in
theorem s_LoopLoss (N : Int) (a b : Option Addr) (n c m d : Nat) (l : List Pip) (fs : List Int) (w : World) (h : QAt w a n l) (h' : IntsAt w b m fs) (hn : n ≤ 1048576) (hm : m ≤ 1048576) (hc : n ≤ c) (x : Int) (y : Bool) (hR : llossR N l fs = (x, y)) :
    Calls Try.prog 28 #[.agg #[.int .i64 N, .slice a n c], .slice b m d] w fun e w' => e = .returned (.tuple #[.int .i64 x, .bool y]) ∧ Below w.heap.size w w' := by
  have hl := h.1
  have H := hid h
  have H' := hid h'
  clear h h'
  cases h1 : goodNet N l
  · rw [llossR_no (.inl (by rw [h1]; rfl))] at hR
    cases hR
    obtain ⟨M, rfl⟩ : ∃ M : Int, M = N := ⟨_, rfl⟩
    have HG := hid h1
    clear h1 hl
    go_enter Try.func28, Try.ntmps28
    go_upto_region 1 with fail
    have BA := hid (by go_grown : Below w.heap.size w (w.alloc (.cells #[.int .i64 M, .slice a n c] 31)))
    have N0 := hid (cell_of_row _ _ 0 _ _ (0, 0) (heap_alloc_new w (.cells #[.int .i64 M, .slice a n c] 31)))
    have N1 := hid (cell_of_row _ _ 1 _ _ (0, 0) (heap_alloc_new w (.cells #[.int .i64 M, .slice a n c] 31)))
    have hzA : w.heap.size < (w.alloc (.cells #[.int .i64 M, .slice a n c] 31)).heap.size := by simp
    have n0 := N0.out
    have n1 := N1.out
    simp only [List.getElem?_toArray, List.getElem?_cons_zero, List.getElem?_cons_succ] at n0 n1
    generalize w.alloc (.cells #[.int .i64 M, .slice a n c] 31) = wA at *
    have KA := hid (show ∀ wx, Below wA.heap.size wA wx → (wx.cell? ⟨w.heap.size, 0, none⟩ = some (.int .i64 M) ∧ wx.cell? ⟨w.heap.size, 1, none⟩ = some (.slice a n c)) from fun wx hb => ⟨(hb.cell (p := ⟨w.heap.size, 0, none⟩) hzA).trans n0, (hb.cell (p := ⟨w.heap.size, 1, none⟩) hzA).trans n1⟩)
    go_wp2_with fail
    refine (s_l2Good M _ _ _ l _ (H.out.below BA.out) hn).mono ?_
    rintro e w1 ⟨rfl, hb1⟩
    rw [HG.out]
    have HB1 := hid hb1
    obtain ⟨n0', n1'⟩ := KA.out _ hb1
    have hz1 : w.heap.size < w1.heap.size := World.block_lt_of_cell? w1 _ n0'
    clear n0 n1 hb1
    go_wp2
    go_ret2
    exact ⟨rfl, bstep BA.out HB1.out⟩
  · have hN := (goodNet_get h1).1
    obtain ⟨M, rfl⟩ : ∃ M : Nat, N = M := ⟨N.toNat, by omega⟩
    have HG := hid h1
    cases h2 : ringB M l
    · rw [llossR_no (.inl (by rw [h1, h2]; rfl))] at hR
      cases hR
      have HR := hid h2
      clear h1 h2 hl hN
      go_enter Try.func28, Try.ntmps28
      go_upto_region 1 with fail
      have BA := hid (by go_grown : Below w.heap.size w (w.alloc (.cells #[.int .i64 M, .slice a n c] 31)))
      have N0 := hid (cell_of_row _ _ 0 _ _ (0, 0) (heap_alloc_new w (.cells #[.int .i64 M, .slice a n c] 31)))
      have N1 := hid (cell_of_row _ _ 1 _ _ (0, 0) (heap_alloc_new w (.cells #[.int .i64 M, .slice a n c] 31)))
      have hzA : w.heap.size < (w.alloc (.cells #[.int .i64 M, .slice a n c] 31)).heap.size := by simp
      have n0 := N0.out
      have n1 := N1.out
      simp only [List.getElem?_toArray, List.getElem?_cons_zero, List.getElem?_cons_succ] at n0 n1
      generalize w.alloc (.cells #[.int .i64 M, .slice a n c] 31) = wA at *
      have KA := hid (show ∀ wx, Below wA.heap.size wA wx → (wx.cell? ⟨w.heap.size, 0, none⟩ = some (.int .i64 M) ∧ wx.cell? ⟨w.heap.size, 1, none⟩ = some (.slice a n c)) from fun wx hb => ⟨(hb.cell (p := ⟨w.heap.size, 0, none⟩) hzA).trans n0, (hb.cell (p := ⟨w.heap.size, 1, none⟩) hzA).trans n1⟩)
      go_wp2_with fail
      refine (s_l2Good M _ _ _ l _ (H.out.below BA.out) hn).mono ?_
      rintro e w1 ⟨rfl, hb1⟩
      rw [HG.out]
      have HB1 := hid hb1
      obtain ⟨n0', n1'⟩ := KA.out _ hb1
      have hz1 : w.heap.size < w1.heap.size := World.block_lt_of_cell? w1 _ n0'
      clear n0 n1 hb1
      go_wp2_with fail
      refine (s_l10Ring M _ _ _ l _ (H.out.below (bstep BA.out HB1.out)) HG.out).mono ?_
      rintro e w2 ⟨rfl, hb2⟩
      rw [HR.out]
      have HB2 := hid (bstep HB1.out hb2)
      obtain ⟨m0, m1⟩ := KA.out _ HB2.out
      have hz2 : w.heap.size < w2.heap.size := World.block_lt_of_cell? w2 _ m0
      clear n0' n1' hb2
      go_wp2
      go_ret2
      exact ⟨rfl, bstep BA.out HB2.out⟩
    · have HR := hid h2
      cases h3 : goodFl n fs
      · rw [llossR_no (.inr (by rw [hl]; exact h3))] at hR
        cases hR
        have H3 := hid h3
        clear h1 h2 h3 hl hN
        go_enter Try.func28, Try.ntmps28
        go_upto_region 1 with fail
        have BA := hid (by go_grown : Below w.heap.size w (w.alloc (.cells #[.int .i64 M, .slice a n c] 31)))
        have N0 := hid (cell_of_row _ _ 0 _ _ (0, 0) (heap_alloc_new w (.cells #[.int .i64 M, .slice a n c] 31)))
        have N1 := hid (cell_of_row _ _ 1 _ _ (0, 0) (heap_alloc_new w (.cells #[.int .i64 M, .slice a n c] 31)))
        have hzA : w.heap.size < (w.alloc (.cells #[.int .i64 M, .slice a n c] 31)).heap.size := by simp
        have n0 := N0.out
        have n1 := N1.out
        simp only [List.getElem?_toArray, List.getElem?_cons_zero, List.getElem?_cons_succ] at n0 n1
        generalize w.alloc (.cells #[.int .i64 M, .slice a n c] 31) = wA at *
        have KA := hid (show ∀ wx, Below wA.heap.size wA wx → (wx.cell? ⟨w.heap.size, 0, none⟩ = some (.int .i64 M) ∧ wx.cell? ⟨w.heap.size, 1, none⟩ = some (.slice a n c)) from fun wx hb => ⟨(hb.cell (p := ⟨w.heap.size, 0, none⟩) hzA).trans n0, (hb.cell (p := ⟨w.heap.size, 1, none⟩) hzA).trans n1⟩)
        go_wp2_with fail
        refine (s_l2Good M _ _ _ l _ (H.out.below BA.out) hn).mono ?_
        rintro e w1 ⟨rfl, hb1⟩
        rw [HG.out]
        have HB1 := hid hb1
        obtain ⟨n0', n1'⟩ := KA.out _ hb1
        have hz1 : w.heap.size < w1.heap.size := World.block_lt_of_cell? w1 _ n0'
        clear n0 n1 hb1
        go_wp2_with fail
        refine (s_l10Ring M _ _ _ l _ (H.out.below (bstep BA.out HB1.out)) HG.out).mono ?_
        rintro e w2 ⟨rfl, hb2⟩
        rw [HR.out]
        have HB2 := hid (bstep HB1.out hb2)
        obtain ⟨m0, m1⟩ := KA.out _ HB2.out
        have hz2 : w.heap.size < w2.heap.size := World.block_lt_of_cell? w2 _ m0
        clear n0' n1' hb2
        go_wp2_with fail
        refine (s_l8Flows _ _ _ n _ _ _ fs _ (H'.out.below (bstep BA.out HB2.out)) hm).mono ?_
        rintro e w3 ⟨rfl, hb3⟩
        rw [H3.out]
        go_wp2
        go_ret2
        exact ⟨rfl, bstep BA.out (bstep HB2.out hb3)⟩
      · obtain rfl : n = m := by have := (goodFl_iff.1 h3).1; have := H'.out.1; omega
        have e0 : llossR M l fs = (lloss l fs n, true) := by
          unfold llossR
          rw [if_pos ⟨by rw [h1, h2]; rfl, by rw [hl]; exact h3⟩, hl]
        rw [e0] at hR
        cases hR
        have H3 := hid h3
        have HFL := hid (show goodFl l.length fs = true by rw [hl]; exact h3)
        have HLN := hid hl
        have HLF := hid H'.out.1
        have hn10 : n ≤ 10 := by have := (goodNet_get h1).2.1; omega
        clear h1 h2 h3 hl hN e0
        go_enter Try.func28, Try.ntmps28
        go_upto_region 1 with fail
        have BA := hid (by go_grown : Below w.heap.size w (w.alloc (.cells #[.int .i64 M, .slice a n c] 31)))
        have N0 := hid (cell_of_row _ _ 0 _ _ (0, 0) (heap_alloc_new w (.cells #[.int .i64 M, .slice a n c] 31)))
        have N1 := hid (cell_of_row _ _ 1 _ _ (0, 0) (heap_alloc_new w (.cells #[.int .i64 M, .slice a n c] 31)))
        have hzA : w.heap.size < (w.alloc (.cells #[.int .i64 M, .slice a n c] 31)).heap.size := by simp
        have n0 := N0.out
        have n1 := N1.out
        simp only [List.getElem?_toArray, List.getElem?_cons_zero, List.getElem?_cons_succ] at n0 n1
        generalize w.alloc (.cells #[.int .i64 M, .slice a n c] 31) = wA at *
        have KA := hid (show ∀ wx, Below wA.heap.size wA wx → (wx.cell? ⟨w.heap.size, 0, none⟩ = some (.int .i64 M) ∧ wx.cell? ⟨w.heap.size, 1, none⟩ = some (.slice a n c)) from fun wx hb => ⟨(hb.cell (p := ⟨w.heap.size, 0, none⟩) hzA).trans n0, (hb.cell (p := ⟨w.heap.size, 1, none⟩) hzA).trans n1⟩)
        go_wp2_with fail
        refine (s_l2Good M _ _ _ l _ (H.out.below BA.out) hn).mono ?_
        rintro e w1 ⟨rfl, hb1⟩
        rw [HG.out]
        have HB1 := hid hb1
        obtain ⟨n0', n1'⟩ := KA.out _ hb1
        have hz1 : w.heap.size < w1.heap.size := World.block_lt_of_cell? w1 _ n0'
        clear n0 n1 hb1
        go_wp2_with fail
        refine (s_l10Ring M _ _ _ l _ (H.out.below (bstep BA.out HB1.out)) HG.out).mono ?_
        rintro e w2 ⟨rfl, hb2⟩
        rw [HR.out]
        have HB2 := hid (bstep HB1.out hb2)
        obtain ⟨m0, m1⟩ := KA.out _ HB2.out
        have hz2 : w.heap.size < w2.heap.size := World.block_lt_of_cell? w2 _ m0
        clear n0' n1' hb2
        go_wp2_with fail
        refine (s_l8Flows _ _ _ n _ _ _ fs _ (H'.out.below (bstep BA.out HB2.out)) hm).mono ?_
        rintro e w3 ⟨rfl, hb3⟩
        rw [H3.out]
        have HB3 := hid (bstep HB2.out hb3)
        obtain ⟨n0, n1⟩ := KA.out _ HB3.out
        clear m0 m1 hb3 hz1 hz2
        go_wp2_with fail
        refine (s_l10Loop M _ _ _ l _ (H.out.below (bstep BA.out HB3.out)) HG.out HR.out hc).mono ?_
        rintro e w4 ⟨a4, c4, rfl, ho4, hb4⟩
        have HO4 := hid ho4
        have HB4 := hid (bstep HB3.out hb4)
        clear n0 n1 ho4 hb4
        obtain ⟨n0, n1⟩ := KA.out _ HB4.out
        have hz4 : w.heap.size < w4.heap.size := World.block_lt_of_cell? w4 _ n0
        go_wp2
        go_loopg [7, 8] n (fun g s i wr => ∃ k : Nat, k ≤ n ∧ g = n - k ∧ s = .int .i64 (lloss l fs k) ∧ i = .int .i64 k ∧ Hid (Below w4.heap.size w4 wr))
        case atStart => exact ⟨0, Nat.zero_le _, rfl, rfl, rfl, hid (Below.refl _ _)⟩
        case round =>
          obtain ⟨k, hk, rfl, rfl, rfl, hh⟩ := hrel
          clear n0 n1
          have HBW := hid (bstep HB4.out hh.out)
          obtain ⟨n0, n1⟩ := KA.out _ HBW.out
          by_cases hlt : k < n
          · obtain ⟨g4, rfl, hg41, hg42⟩ := own_some HO4.out (by omega)
            have hcl := (HO4.out.below hh.out).cell (k := k) hlt
            obtain ⟨b0, off0, rfl, hbw, x0, x1, x2, x3⟩ := QAt.get (H.out.below (bstep BA.out HBW.out)) k hlt
            obtain ⟨b1, off1, rfl, hbw1, hfc⟩ := (H'.out.below (bstep BA.out HBW.out)).2 k hlt
            have hkl : k < l.length := by have := HLN.out; omega
            have f1 := lloss_fit HG.out HFL.out k (by omega)
            have f2 := lloss_step HG.out HFL.out hkl
            have hsz := (goodNet_pipe HG.out hkl).2.2.2.2
            have hfq := (goodFl_iff.1 H3.out).2 _ (getD_mem fs k (by have := HLF.out; omega))
            have hw1 := IntWalk.i64_in ((loopS l)[k]?.getD 0 * loss l fs k) (by omega)
            have hw2 := IntWalk.i64_in (lloss l fs k + (loopS l)[k]?.getD 0 * loss l fs k) (by omega)
            obtain ⟨q, hq0⟩ : ∃ q, fs[k]?.getD 0 = q := ⟨_, rfl⟩
            rw [hq0] at hfc hfq
            have HLO := hid (show (pp l k).2.2.2 * q * max q (-q) = loss l fs k from by unfold loss; rw [hq0])
            obtain ⟨sg, hsg⟩ : ∃ sg, (loopS l)[k]?.getD 0 = sg := ⟨_, rfl⟩
            obtain ⟨lo, hlo⟩ : ∃ lo, loss l fs k = lo := ⟨_, rfl⟩
            have HE := hid (show lloss l fs (k + 1) = lloss l fs k + sg * lo from by rw [lloss, hsg, hlo])
            rw [hsg] at hcl hw1 hw2
            rw [hlo] at hw1 hw2 HLO
            obtain ⟨P, hP⟩ : ∃ P, pp l k = P := ⟨_, rfl⟩
            rw [hP] at x0 x1 x2 x3 hsz HLO
            have X := hid (show RowC wr w.heap.size b0 k g4 b1 off1 off0 n c P.1 P.2.1 P.2.2.1 P.2.2.2 sg q wr.drew from ⟨(Below.refl _ _).drew, n1, x0, x1, x2, x3, hcl, hfc⟩)
            clear hsg hlo hq0 hP x0 x1 x2 x3 hcl hfc n0 n1 f1 f2 hbw hbw1
            go_upto_region 8 with fail
            refine wp_region_calm (C := (fun w' => Below wr.heap.size wr w' ∧ w'.cell? ⟨w.heap.size, 1, none⟩ = some (.slice (some ⟨b0, off0, none⟩) n c) ∧ w'.cell? ⟨b0, off0 + k * 4, none⟩ = some (.int .i64 P.1) ∧ w'.cell? ⟨b0, off0 + k * 4 + 1, none⟩ = some (.int .i64 P.2.1) ∧ w'.cell? ⟨b0, off0 + k * 4 + 2, none⟩ = some (.int .i64 P.2.2.1) ∧ w'.cell? ⟨b0, off0 + k * 4 + 3, none⟩ = some (.int .i64 P.2.2.2) ∧ w'.cell? ⟨g4, k, none⟩ = some (.int .i64 sg) ∧ w'.cell? ⟨b1, off1 + k, none⟩ = some (.int .i64 q))) (by kernel_rfl) (by kernel_rfl) (X.out) ?_
            repeat
              first
                | go_big_quiet_skip
                | (go_big_quiet_want
                   first
                     | (unfold Oper.quiet
                        apply Exists.intro
                        refine ⟨fun wq hq => ?_, ?_⟩
                        · (try dsimp only at hq
                           simp [go_sem, Oper.quietAt, Oper.quietUpon, BigFrame.eval_const, BigFrame.eval_global, BigFrame.eval_func, ↓IntWalk.iteOmega, *]
                           first | done | rfl | (refine calm_call hq (RowC.keep wr w.heap.size b0 k g4 b1 off1 off0 n c P.1 P.2.1 P.2.2.1 P.2.2.2 sg q) (s_l9Loss _ _ _ _ _ _ hsz hfq) (by rw [HLO.out])))
                        simp only [Act.put, List.setIfInBounds_toArray, List.set_cons_succ, List.set_cons_zero]
                        go_big_quiet_on))
            refine wpQuiet_nil ?_
            intro wc hcalm
            try dsimp only at hcalm
            have HC := hid hcalm.1
            clear hcalm X
            go_wp2
            go_roundg (n - (k + 1))
            case rel => exact ⟨k + 1, by omega, rfl, by rw [HE.out], by go_num, hid (bstep hh.out HC.out)⟩
            case measure => omega
          · obtain rfl : n = k := by omega
            go_wp2
            go_ret2
            exact ⟨rfl, bstep BA.out HBW.out⟩

end Go.Proofs.Ythhogblnndmenaa
