/-
  Texts of this claim, joined: AlongS, NetG2, NetG4.
-/
import Derived.Test.YtlnhikhpkcgegaaLo18
/-
  LossAlong, in the reference.
-/
set_option linter.unusedVariables false
set_option linter.unusedSimpArgs false
namespace Go.Proofs.Ytlnhikhpkcgegaa
open Go.RowKit

set_option maxRecDepth 100000 in
set_option maxHeartbeats 8000000 in
theorem s_LossAlong (N v t : Int) (a p : Option Addr) (n c m e0 : Nat) (l : List Pip) (fs : List Int) (w : World) (h : QAt w a n l) (h' : IntsAt w p m fs) (hn : n ≤ 1048576) (hm : m ≤ 1048576) (x : Int) (b : Bool) (hR : alongR N l fs v t = (x, b)) :
    Calls Try.prog 43 #[.agg #[.int .i64 N, .slice a n c], .slice p m e0, .int .i64 v, .int .i64 t] w fun e w' => e = .returned (.tuple #[.int .i64 x, .bool b]) ∧ Below w.heap.size w w' := by
  have hl := h.1
  have hl' := h'.1
  have H := hid h
  have H' := hid h'
  clear h h'
  cases h1 : goodNet N l && inR v 1 N
  · rw [alongR_no (.inl h1)] at hR
    cases hR
    have H1 := hid h1
    clear h1
    go_enter Try.func43, Try.ntmps43
    go_wp2_with fail
    refine (s_l2Node _ _ _ _ _ l _ (H.out.below (by go_grown)) hn).mono ?_
    rintro e w1 ⟨rfl, hb1⟩
    rw [H1.out]
    obtain ⟨hc_w1, hf_w1⟩ := bcell hb1
    have hz_w1_0 : w.heap.size < w1.heap.size := by have := hb1.size; simp only [World.size_alloc] at this; omega
    have HB1 := hid (bstep (by go_grown) hb1 : Below w.heap.size w w1)
    go_wp2
    go_ret2
    exact ⟨rfl, HB1.out⟩
  · have H1 := hid h1
    obtain ⟨k1, k2⟩ := (Bool.and_eq_true _ _).mp h1
    cases h2 : inR t 1 N
    · rw [alongR_no (.inr (.inl h2))] at hR
      cases hR
      have H2 := hid (show (goodNet N l && inR t 1 N) = false by rw [h2]; simp)
      clear h1 h2 k1 k2
      go_enter Try.func43, Try.ntmps43
      go_wp2_with fail
      refine (s_l2Node _ _ _ _ _ l _ (H.out.below (by go_grown)) hn).mono ?_
      rintro e w1 ⟨rfl, hb1⟩
      rw [H1.out]
      obtain ⟨hc_w1, hf_w1⟩ := bcell hb1
      have hz_w1_0 : w.heap.size < w1.heap.size := by have := hb1.size; simp only [World.size_alloc] at this; omega
      have HB1 := hid (bstep (by go_grown) hb1 : Below w.heap.size w w1)
      go_wp2_with fail
      refine (s_l2Node _ _ _ _ _ l _ (H.out.below HB1.out) hn).mono ?_
      rintro e w2 ⟨rfl, hb2⟩
      rw [H2.out]
      obtain ⟨hc_w2, hf_w2⟩ := bcell hb2
      have hz_w2_0 : w.heap.size < w2.heap.size := by have := hb2.size; omega
      have HB2 := hid (bstep HB1.out hb2 : Below w.heap.size w w2)
      go_wp2
      go_ret2
      exact ⟨rfl, HB2.out⟩
    · have H2 := hid (show (goodNet N l && inR t 1 N) = true by rw [h2, k1]; simp)
      have hN := (goodNet_get k1).1
      obtain ⟨M, rfl⟩ : ∃ M : Nat, N = M := ⟨N.toNat, by omega⟩
      have e1 := inR_iff.1 k2
      have e2 := inR_iff.1 h2
      obtain ⟨v0, rfl⟩ : ∃ v0 : Nat, v = v0 := ⟨v.toNat, by omega⟩
      obtain ⟨t0, rfl⟩ : ∃ t0 : Nat, t = t0 := ⟨t.toNat, by omega⟩
      have hv : 1 ≤ v0 ∧ v0 ≤ M := by omega
      have ht : 1 ≤ t0 ∧ t0 ≤ M := by omega
      have HG := hid k1
      have hM : M ≤ 8 := by omega
      cases h3 : goodFl l.length fs
      · rw [alongR_no (.inr (.inr (.inl h3)))] at hR
        cases hR
        have H3 := hid (show goodFl n fs = false by rw [← hl]; exact h3)
        clear h1 h2 h3 k1 k2 hN
        go_enter Try.func43, Try.ntmps43
        go_wp2_with fail
        refine (s_l2Node _ _ _ _ _ l _ (H.out.below (by go_grown)) hn).mono ?_
        rintro e w1 ⟨rfl, hb1⟩
        rw [H1.out]
        obtain ⟨hc_w1, hf_w1⟩ := bcell hb1
        have hz_w1_0 : w.heap.size < w1.heap.size := by have := hb1.size; simp only [World.size_alloc] at this; omega
        have HB1 := hid (bstep (by go_grown) hb1 : Below w.heap.size w w1)
        go_wp2_with fail
        refine (s_l2Node _ _ _ _ _ l _ (H.out.below HB1.out) hn).mono ?_
        rintro e w2 ⟨rfl, hb2⟩
        rw [H2.out]
        obtain ⟨hc_w2, hf_w2⟩ := bcell hb2
        have hz_w2_0 : w.heap.size < w2.heap.size := by have := hb2.size; omega
        have HB2 := hid (bstep HB1.out hb2 : Below w.heap.size w w2)
        go_wp2_with fail
        refine (s_l8Flows _ _ _ _ _ _ _ fs _ (H'.out.below HB2.out) hm).mono ?_
        rintro e w3 ⟨rfl, hb3⟩
        rw [H3.out]
        obtain ⟨hc_w3, hf_w3⟩ := bcell hb3
        have hz_w3_0 : w.heap.size < w3.heap.size := by have := hb3.size; omega
        have HB3 := hid (bstep HB2.out hb3 : Below w.heap.size w w3)
        go_wp2
        go_ret2
        exact ⟨rfl, HB3.out⟩
      · have H3 := hid (show goodFl n fs = true by rw [← hl]; exact h3)
        have hcon : 0 ≤ far l 0 v0 t0 ↔ 0 ≤ far l 0 t0 v0 := ⟨fun h => Conn.symm k1 h, fun h => Conn.symm k1 h⟩
        have hlen := reachL_len (N := (M : Int)) (l := l) (wo := 0) (s := (v0 : Int))
        by_cases hf : far l 0 t0 v0 < 0
        · rw [alongR_no (.inr (.inr (.inr hf)))] at hR
          cases hR
          have FT := hid (show decide ((t0 : Int) ∈ reachL M l 0 v0) = false by
            simp only [decide_eq_false_iff_not]
            intro h9
            rw [to_reached (by omega)] at h9
            have := hcon.1 h9
            omega)
          clear h1 h2 h3 k1 k2 hN hcon hf
          go_enter Try.func43, Try.ntmps43
          go_wp2_with fail
          refine (s_l2Node _ _ _ _ _ l _ (H.out.below (by go_grown)) hn).mono ?_
          rintro e w1 ⟨rfl, hb1⟩
          rw [H1.out]
          obtain ⟨hc_w1, hf_w1⟩ := bcell hb1
          have hz_w1_0 : w.heap.size < w1.heap.size := by have := hb1.size; simp only [World.size_alloc] at this; omega
          have HB1 := hid (bstep (by go_grown) hb1 : Below w.heap.size w w1)
          go_wp2_with fail
          refine (s_l2Node _ _ _ _ _ l _ (H.out.below HB1.out) hn).mono ?_
          rintro e w2 ⟨rfl, hb2⟩
          rw [H2.out]
          obtain ⟨hc_w2, hf_w2⟩ := bcell hb2
          have hz_w2_0 : w.heap.size < w2.heap.size := by have := hb2.size; omega
          have HB2 := hid (bstep HB1.out hb2 : Below w.heap.size w w2)
          go_wp2_with fail
          refine (s_l8Flows _ _ _ _ _ _ _ fs _ (H'.out.below HB2.out) hm).mono ?_
          rintro e w3 ⟨rfl, hb3⟩
          rw [H3.out]
          obtain ⟨hc_w3, hf_w3⟩ := bcell hb3
          have hz_w3_0 : w.heap.size < w3.heap.size := by have := hb3.size; omega
          have HB3 := hid (bstep HB2.out hb3 : Below w.heap.size w w3)
          go_wp2_with fail
          refine (s_l2Reached M v0 _ _ _ l _ (H.out.below HB3.out) HG.out (by omega)).mono ?_
          rintro e w4 ⟨g4, c4, rfl, ho4, hb4⟩
          obtain ⟨hc_w4, hf_w4⟩ := bcell hb4
          have hz_w4_0 : w.heap.size < w4.heap.size := by have := hb4.size; omega
          have HB4 := hid (bstep HB3.out hb4 : Below w.heap.size w w4)
          go_wp2_with fail
          refine (s_l1Has_is _ _ _ _ _ _ ho4.at (by omega) false FT.out).mono ?_
          rintro e _ ⟨rfl, rfl⟩
          clear ho4
          go_wp2
          go_ret2
          exact ⟨rfl, HB4.out⟩
        · obtain ⟨d, hd⟩ : ∃ d : Nat, far l 0 t0 v0 = d := ⟨(far l 0 t0 v0).toNat, by omega⟩
          have e0' : alongR M l fs v0 t0 = (lsum l fs (far l 0 t0) v0 d, true) := by
            unfold alongR
            rw [if_pos ⟨h1, h2, h3, by omega⟩, hd]
            rfl
          rw [e0'] at hR
          cases hR
          have hmn : m = n := by have := (goodFl_iff.1 h3).1; omega
          subst hmn
          have HDF := hid hd
          have FT := hid (show decide ((t0 : Int) ∈ reachL M l 0 v0) = true by
            simp only [decide_eq_true_eq]
            rw [to_reached (by omega)]
            exact hcon.2 (by omega))
          clear h1 h2 h3 k1 k2 hN hcon hf hd e0'
          go_enter Try.func43, Try.ntmps43
          go_wp2_with fail
          refine (s_l2Node _ _ _ _ _ l _ (H.out.below (by go_grown)) hn).mono ?_
          rintro e w1 ⟨rfl, hb1⟩
          rw [H1.out]
          obtain ⟨hc_w1, hf_w1⟩ := bcell hb1
          have hz_w1_0 : w.heap.size < w1.heap.size := by have := hb1.size; simp only [World.size_alloc] at this; omega
          have HB1 := hid (bstep (by go_grown) hb1 : Below w.heap.size w w1)
          go_wp2_with fail
          refine (s_l2Node _ _ _ _ _ l _ (H.out.below HB1.out) hn).mono ?_
          rintro e w2 ⟨rfl, hb2⟩
          rw [H2.out]
          obtain ⟨hc_w2, hf_w2⟩ := bcell hb2
          have hz_w2_0 : w.heap.size < w2.heap.size := by have := hb2.size; omega
          have HB2 := hid (bstep HB1.out hb2 : Below w.heap.size w w2)
          go_wp2_with fail
          refine (s_l8Flows _ _ _ _ _ _ _ fs _ (H'.out.below HB2.out) hm).mono ?_
          rintro e w3 ⟨rfl, hb3⟩
          rw [H3.out]
          obtain ⟨hc_w3, hf_w3⟩ := bcell hb3
          have hz_w3_0 : w.heap.size < w3.heap.size := by have := hb3.size; omega
          have HB3 := hid (bstep HB2.out hb3 : Below w.heap.size w w3)
          go_wp2_with fail
          refine (s_l2Reached M v0 _ _ _ l _ (H.out.below HB3.out) HG.out (by omega)).mono ?_
          rintro e w4 ⟨g4, c4, rfl, ho4, hb4⟩
          obtain ⟨hc_w4, hf_w4⟩ := bcell hb4
          have hz_w4_0 : w.heap.size < w4.heap.size := by have := hb4.size; omega
          have HB4 := hid (bstep HB3.out hb4 : Below w.heap.size w w4)
          go_wp2_with fail
          refine (s_l1Has_is _ _ _ _ _ _ ho4.at (by omega) true FT.out).mono ?_
          rintro e _ ⟨rfl, rfl⟩
          clear ho4
          go_wp2_with fail
          refine (s_l9Along M v0 t0 _ _ _ _ _ l fs _ (H.out.below HB4.out) (H'.out.below HB4.out) HG.out H3.out hv ht d HDF.out).mono ?_
          rintro e w5 ⟨rfl, hb5⟩
          go_wp2
          go_ret2
          exact ⟨rfl, bstep HB4.out hb5⟩

end Go.Proofs.Ytlnhikhpkcgegaa

/-
  Networks: HeaviestPipe and SteepestPipe of the program.
-/
set_option linter.unusedVariables false
set_option linter.unusedSimpArgs false
namespace Go.Proofs.Ytlnhikhpkcgegaa
open Go.RowKit

theorem heavyR_no {N : Int} {l : List Pip} {fs : List Int} (h : goodNet N l = false ∨ goodFl l.length fs = false ∨ l.length = 0) : heavyR N l fs = (0, 0, false) := by
  unfold heavyR
  rw [if_neg]
  rintro ⟨h1, h2, h3⟩
  rcases h with h | h | h
  · rw [h1] at h; cases h
  · rw [h2] at h; cases h
  · exact h3 (List.eq_nil_of_length_eq_zero h)
theorem steepR_no {N : Int} {l : List Pip} {fs : List Int} (h : goodNet N l = false ∨ goodFl l.length fs = false ∨ l.length = 0) : steepR N l fs = (0, 0, false) := by
  unfold steepR
  rw [if_neg]
  rintro ⟨h1, h2, h3⟩
  rcases h with h | h | h
  · rw [h1] at h; cases h
  · rw [h2] at h; cases h
  · exact h3 (List.eq_nil_of_length_eq_zero h)

set_option maxRecDepth 100000 in
set_option maxHeartbeats 2000000 in
theorem i_HeaviestPipe (N : Int) (a b : Option Addr) (n c m d : Nat) (l : List Pip) (fs : List Int) (w : World) (h : QAt w a n l) (h' : IntsAt w b m fs) (hn : n ≤ 1048576) (hm : m ≤ 1048576) (x y : Int) (z : Bool) (hR : heavyR N l fs = (x, y, z)) :
    Calls Try.prog 29 #[.agg #[.int .i64 N, .slice a n c], .slice b m d] w fun e w' => e = .returned (.tuple #[.int .i64 x, .int .i64 y, .bool z]) ∧ Below w.heap.size w w' := by
  have hl := h.1
  have H := hid h
  have H' := hid h'
  clear h h'
  by_cases h12 : (goodNet N l && goodFl n fs) = true
  · have HF := hid h12
    have h2 := ((Bool.and_eq_true _ _).mp h12)
    have hmn : m = n := by have := (goodFl_iff.1 h2.2).1; have := H'.out.1; omega
    subst hmn
    by_cases h3 : m = 0
    · rw [heavyR_no (.inr (.inr (by omega)))] at hR
      cases hR
      have hm0 : ¬ 0 < m := by omega
      clear h12 h2 hl
      subst h3
      go_enter Try.func29, Try.ntmps29
      go_wp2_with fail
      refine (i_isFlowing N _ _ _ _ _ _ l fs _ (H.out.below (by go_grown)) (H'.out.below (by go_grown)) (by omega) (by omega)).mono ?_
      rintro e w1 ⟨rfl, hb1⟩
      rw [HF.out]
      obtain ⟨hc_w1, hf_w1⟩ := bcell hb1
      have hz_w1_0 : w.heap.size < w1.heap.size := by have := hb1.size; simp only [World.size_alloc] at this; omega
      go_wp2
      go_ret3
      exact ⟨rfl, bstep (by go_grown) hb1⟩
    · have HG := hid h2.1
      have HS := hid h2.2
      have HB8 := hid (goodFl_iff.1 h2.2).2
      have e0 : heavyR N l fs = ((gp l (fun k => max (fs[k]?.getD 0) (-(fs[k]?.getD 0))) m).1, (gp l (fun k => max (fs[k]?.getD 0) (-(fs[k]?.getD 0))) m).2, true) := by
        unfold heavyR
        rw [if_pos ⟨h2.1, by rw [hl]; exact h2.2, fun e => h3 (by rw [e] at hl; exact hl.symm)⟩, hl]
      rw [e0] at hR
      cases hR
      have hm0 : 0 < m := by omega
      clear h12 h2 hl e0 h3
      go_enter Try.func29, Try.ntmps29
      go_wp2_with fail
      refine (i_isFlowing N _ _ _ _ _ _ l fs _ (H.out.below (by go_grown)) (H'.out.below (by go_grown)) (by omega) (by omega)).mono ?_
      rintro e w1 ⟨rfl, hb1⟩
      rw [HF.out]
      have hz := hb1.size
      simp only [World.size_alloc] at hz
      have hz0 : w.heap.size < w1.heap.size := by omega
      have hz1 : w.heap.size + 1 < w1.heap.size := by omega
      have HB1 := hid (bstep (by go_grown) hb1 : Below w.heap.size w w1)
      have T0 := (hb1.block w.heap.size (by simp <;> omega)).trans (mid_new w _ _ _ rfl)
      have T1 := (hb1.block (w.heap.size + 1) (by simp)).trans (last_newG (w.alloc _) _ _ (by simp))
      have n0 : w1.cell? ⟨w.heap.size, 0, none⟩ = some (.int .i64 N) := by rw [cell_of_row w1 _ _ _ _ (0, 0) T0]; rfl
      have n1 : w1.cell? ⟨w.heap.size, 1, none⟩ = some (.slice a m c) := by rw [cell_of_row w1 _ _ _ _ (0, 0) T0]; rfl
      have f0 : w1.cell? ⟨w.heap.size + 1, 0, none⟩ = some (.slice b m d) := by rw [cell_of_row w1 _ _ _ _ (0, 0) T1]; rfl
      have N0 := hid n0
      have N1 := hid n1
      have F0 := hid f0
      clear T0 T1 hb1 hz
      go_wp2_with fail
      refine (i_greatestPipe 98 (#[.pointer (some ⟨w.heap.size + 1, 0, none⟩)]) (fun k => fs[k]?.getD 0) enters_HeaviestPipe N _ m _ l _ (H.out.below HB1.out) (by omega) (fun k hk => by have := HB8.out _ (getD_mem' (l := fs) (k := k) (by have := H'.out.1; omega)); omega) (fun k w' hk hb => i_HeaviestPipe1 b m d (w.heap.size + 1) k fs w' ((H'.out.below HB1.out).below hb) hk ((hb.cell hz1).trans F0.out))).mono ?_
      rintro e w2 ⟨rfl, hb2⟩
      go_wp2
      go_ret3
      exact ⟨rfl, bstep HB1.out hb2⟩
  · have HF := hid (show (goodNet N l && goodFl n fs) = false by simpa using h12)
    have e0 : heavyR N l fs = (0, 0, false) := by
      apply heavyR_no
      cases h1 : goodNet N l
      · exact .inl rfl
      · have := HF.out; rw [h1] at this; rw [hl]; exact .inr (.inl this)
    rw [e0] at hR
    cases hR
    clear h12 hl e0
    go_enter Try.func29, Try.ntmps29
    go_wp2_with fail
    refine (i_isFlowing N _ _ _ _ _ _ l fs _ (H.out.below (by go_grown)) (H'.out.below (by go_grown)) (by omega) (by omega)).mono ?_
    rintro e w1 ⟨rfl, hb1⟩
    rw [HF.out]
    go_wp2
    go_ret3
    exact ⟨rfl, bstep (by go_grown) hb1⟩
set_option maxRecDepth 100000 in
set_option maxHeartbeats 2000000 in
theorem i_SteepestPipe (N : Int) (a b : Option Addr) (n c m d : Nat) (l : List Pip) (fs : List Int) (w : World) (h : QAt w a n l) (h' : IntsAt w b m fs) (hn : n ≤ 1048576) (hm : m ≤ 1048576) (x y : Int) (z : Bool) (hR : steepR N l fs = (x, y, z)) :
    Calls Try.prog 47 #[.agg #[.int .i64 N, .slice a n c], .slice b m d] w fun e w' => e = .returned (.tuple #[.int .i64 x, .int .i64 y, .bool z]) ∧ Below w.heap.size w w' := by
  have hl := h.1
  have H := hid h
  have H' := hid h'
  clear h h'
  by_cases h12 : (goodNet N l && goodFl n fs) = true
  · have HF := hid h12
    have h2 := ((Bool.and_eq_true _ _).mp h12)
    have hmn : m = n := by have := (goodFl_iff.1 h2.2).1; have := H'.out.1; omega
    subst hmn
    by_cases h3 : m = 0
    · rw [steepR_no (.inr (.inr (by omega)))] at hR
      cases hR
      have hm0 : ¬ 0 < m := by omega
      clear h12 h2 hl
      subst h3
      go_enter Try.func47, Try.ntmps47
      go_wp2_with fail
      refine (i_isFlowing N _ _ _ _ _ _ l fs _ (H.out.below (by go_grown)) (H'.out.below (by go_grown)) (by omega) (by omega)).mono ?_
      rintro e w1 ⟨rfl, hb1⟩
      rw [HF.out]
      obtain ⟨hc_w1, hf_w1⟩ := bcell hb1
      have hz_w1_0 : w.heap.size < w1.heap.size := by have := hb1.size; simp only [World.size_alloc] at this; omega
      go_wp2
      go_ret3
      exact ⟨rfl, bstep (by go_grown) hb1⟩
    · have HG := hid h2.1
      have HS := hid h2.2
      have HB8 := hid (goodFl_iff.1 h2.2).2
      have e0 : steepR N l fs = ((gp l (fun k => max (loss l fs k) (-(loss l fs k))) m).1, (gp l (fun k => max (loss l fs k) (-(loss l fs k))) m).2, true) := by
        unfold steepR
        rw [if_pos ⟨h2.1, by rw [hl]; exact h2.2, fun e => h3 (by rw [e] at hl; exact hl.symm)⟩, hl]
      rw [e0] at hR
      cases hR
      have hm0 : 0 < m := by omega
      clear h12 h2 hl e0 h3
      go_enter Try.func47, Try.ntmps47
      go_wp2_with fail
      refine (i_isFlowing N _ _ _ _ _ _ l fs _ (H.out.below (by go_grown)) (H'.out.below (by go_grown)) (by omega) (by omega)).mono ?_
      rintro e w1 ⟨rfl, hb1⟩
      rw [HF.out]
      have hz := hb1.size
      simp only [World.size_alloc] at hz
      have hz0 : w.heap.size < w1.heap.size := by omega
      have hz1 : w.heap.size + 1 < w1.heap.size := by omega
      have HB1 := hid (bstep (by go_grown) hb1 : Below w.heap.size w w1)
      have T0 := (hb1.block w.heap.size (by simp <;> omega)).trans (mid_new w _ _ _ rfl)
      have T1 := (hb1.block (w.heap.size + 1) (by simp)).trans (last_newG (w.alloc _) _ _ (by simp))
      have n0 : w1.cell? ⟨w.heap.size, 0, none⟩ = some (.int .i64 N) := by rw [cell_of_row w1 _ _ _ _ (0, 0) T0]; rfl
      have n1 : w1.cell? ⟨w.heap.size, 1, none⟩ = some (.slice a m c) := by rw [cell_of_row w1 _ _ _ _ (0, 0) T0]; rfl
      have f0 : w1.cell? ⟨w.heap.size + 1, 0, none⟩ = some (.slice b m d) := by rw [cell_of_row w1 _ _ _ _ (0, 0) T1]; rfl
      have N0 := hid n0
      have N1 := hid n1
      have F0 := hid f0
      clear T0 T1 hb1 hz
      go_wp2_with fail
      refine (i_greatestPipe 125 (#[.pointer (some ⟨w.heap.size, 0, none⟩), .pointer (some ⟨w.heap.size + 1, 0, none⟩)]) (fun k => loss l fs k) enters_SteepestPipe N _ m _ l _ (H.out.below HB1.out) (by omega) (fun k hk => by have := HB8.out _ (getD_mem' (l := fs) (k := k) (by have := H'.out.1; omega)); have h2 := (goodNet_pipe HG.out (k := k) (by have := H.out.1; omega)).2.2.2.2; have := (loss_fit h2 this).2; unfold loss; omega) (fun k w' hk hb => i_SteepestPipe1 N a b m c d w.heap.size (w.heap.size + 1) k l fs w' ((H.out.below HB1.out).below hb) ((H'.out.below HB1.out).below hb) HG.out HS.out hk ((hb.cell hz0).trans N0.out) ((hb.cell hz0).trans N1.out) ((hb.cell hz1).trans F0.out))).mono ?_
      rintro e w2 ⟨rfl, hb2⟩
      go_wp2
      go_ret3
      exact ⟨rfl, bstep HB1.out hb2⟩
  · have HF := hid (show (goodNet N l && goodFl n fs) = false by simpa using h12)
    have e0 : steepR N l fs = (0, 0, false) := by
      apply steepR_no
      cases h1 : goodNet N l
      · exact .inl rfl
      · have := HF.out; rw [h1] at this; rw [hl]; exact .inr (.inl this)
    rw [e0] at hR
    cases hR
    clear h12 hl e0
    go_enter Try.func47, Try.ntmps47
    go_wp2_with fail
    refine (i_isFlowing N _ _ _ _ _ _ l fs _ (H.out.below (by go_grown)) (H'.out.below (by go_grown)) (by omega) (by omega)).mono ?_
    rintro e w1 ⟨rfl, hb1⟩
    rw [HF.out]
    go_wp2
    go_ret3
    exact ⟨rfl, bstep (by go_grown) hb1⟩

end Go.Proofs.Ytlnhikhpkcgegaa

/-
  Networks: SteepestPipe of the reference.
-/
set_option linter.unusedVariables false
set_option linter.unusedSimpArgs false
namespace Go.Proofs.Ytlnhikhpkcgegaa
open Go.RowKit

set_option maxRecDepth 100000 in
set_option maxHeartbeats 4000000 in
theorem s_SteepestPipe (N : Int) (a b : Option Addr) (n c m d : Nat) (l : List Pip) (fs : List Int) (w : World) (h : QAt w a n l) (h' : IntsAt w b m fs) (hn : n ≤ 1048576) (hm : m ≤ 1048576) (x y : Int) (z : Bool) (hR : steepR N l fs = (x, y, z)) :
    Calls Try.prog 48 #[.agg #[.int .i64 N, .slice a n c], .slice b m d] w fun e w' => e = .returned (.tuple #[.int .i64 x, .int .i64 y, .bool z]) ∧ Below w.heap.size w w' := by
  have hl := h.1
  have H := hid h
  have H' := hid h'
  clear h h'
  cases h1 : goodNet N l
  · have HG := hid h1
    rw [steepR_no (.inl h1)] at hR
    cases hR
    clear h1 hl
    go_enter Try.func48, Try.ntmps48
    go_wp2_with fail
    refine (s_l2Good N _ _ _ l _ (H.out.below (by go_grown)) (by omega)).mono ?_
    rintro e w1 ⟨rfl, hb1⟩
    rw [HG.out]
    obtain ⟨hc_w1, hf_w1⟩ := bcell hb1
    have hz_w1_0 : w.heap.size < w1.heap.size := by have := hb1.size; simp only [World.size_alloc] at this; omega
    have HB1 := hid (bstep (by go_grown) hb1 : Below w.heap.size w w1)
    go_wp2
    go_ret3
    exact ⟨rfl, HB1.out⟩
  · cases h2 : goodFl n fs
    · have HG := hid h1
      have HD := hid h2
      rw [steepR_no (.inr (.inl (by rw [hl]; exact h2)))] at hR
      cases hR
      clear h1 h2 hl
      go_enter Try.func48, Try.ntmps48
      go_wp2_with fail
      refine (s_l2Good N _ _ _ l _ (H.out.below (by go_grown)) (by omega)).mono ?_
      rintro e w1 ⟨rfl, hb1⟩
      rw [HG.out]
      obtain ⟨hc_w1, hf_w1⟩ := bcell hb1
      have hz_w1_0 : w.heap.size < w1.heap.size := by have := hb1.size; simp only [World.size_alloc] at this; omega
      have HB1 := hid (bstep (by go_grown) hb1 : Below w.heap.size w w1)
      go_wp2_with fail
      refine (s_l8Flows N _ _ n _ _ _ fs _ (H'.out.below HB1.out) hm).mono ?_
      rintro e w2 ⟨rfl, hb2⟩
      rw [HD.out]
      go_wp2
      go_ret3
      exact ⟨rfl, bstep HB1.out hb2⟩
    · have hmn : m = n := by have := (goodFl_iff.1 h2).1; have := H'.out.1; omega
      subst hmn
      have HG := hid h1
      have HD := hid h2
      by_cases h3 : m = 0
      · rw [steepR_no (.inr (.inr (by omega)))] at hR
        cases hR
        clear h1 h2 hl
        subst h3
        go_enter Try.func48, Try.ntmps48
        go_wp2_with fail
        refine (s_l2Good N _ _ _ l _ (H.out.below (by go_grown)) (by omega)).mono ?_
        rintro e w1 ⟨rfl, hb1⟩
        rw [HG.out]
        obtain ⟨hc_w1, hf_w1⟩ := bcell hb1
        have hz_w1_0 : w.heap.size < w1.heap.size := by have := hb1.size; simp only [World.size_alloc] at this; omega
        have HB1 := hid (bstep (by go_grown) hb1 : Below w.heap.size w w1)
        go_wp2_with fail
        refine (s_l8Flows N _ _ 0 _ _ _ fs _ (H'.out.below HB1.out) (by omega)).mono ?_
        rintro e w2 ⟨rfl, hb2⟩
        rw [HD.out]
        go_wp2
        go_ret3
        exact ⟨rfl, bstep HB1.out hb2⟩
      ·
        have e0 : steepR N l fs = ((gp l (fun k => max (loss l fs k) (-(loss l fs k))) m).1, (gp l (fun k => max (loss l fs k) (-(loss l fs k))) m).2, true) := by
          unfold steepR
          rw [if_pos ⟨h1, by rw [hl]; exact h2, fun e => h3 (by rw [e] at hl; exact hl.symm)⟩, hl]
        rw [e0] at hR
        cases hR
        have hm0 : 0 < m := by omega
        have hmb : ((m : Int) == 0) = false := by simp; omega
        have HB8 := hid (goodFl_iff.1 h2).2
        have hm10 : m ≤ 10 := by have := (goodNet_get h1).2.1; omega
        have HL := hid hl
        have HL' := hid H'.out.1
        obtain ⟨b0, off0, rfl, hbw, -, -, -, -⟩ := QAt.get H.out 0 hm0
        obtain ⟨b1, off1, rfl, hbw1, -⟩ := H'.out.2 0 hm0
        clear h1 h2 h3 hl e0
        go_enter Try.func48, Try.ntmps48
        go_wp2_with fail
        refine (s_l2Good N _ _ _ l _ (H.out.below (by go_grown)) (by omega)).mono ?_
        rintro e w1 ⟨rfl, hb1⟩
        rw [HG.out]
        obtain ⟨hc_w1, hf_w1⟩ := bcell hb1
        have hz_w1_0 : w.heap.size < w1.heap.size := by have := hb1.size; simp only [World.size_alloc] at this; omega
        have HB1 := hid (bstep (by go_grown) hb1 : Below w.heap.size w w1)
        go_wp2_with fail
        refine (s_l8Flows N _ _ m _ _ _ fs _ (H'.out.below HB1.out) (by omega)).mono ?_
        rintro e w2 ⟨rfl, hb2⟩
        rw [HD.out]
        have hz_w2_0 : w.heap.size < w2.heap.size := by have := hb2.size; omega
        have HB2 := hid (bstep HB1.out hb2)
        have n0 : w2.cell? ⟨w.heap.size, 0, none⟩ = some (.int .i64 N) := by rw [(bcell hb2).1 _ _ hz_w1_0, hc_w1 _ _ (by simp)]; exact cell_of_row _ _ 0 _ _ (0, 0) (heap_alloc_new _ _)
        have n1 := ((bcell hb2).1 w.heap.size 1 hz_w1_0).trans ((hc_w1 _ _ (by simp)).trans (cell_of_row _ _ 1 _ _ (0, 0) (heap_alloc_new _ _)))
        simp only [List.getElem?_toArray, List.getElem?_cons_succ, List.getElem?_cons_zero] at n1
        have N1 := hid n1
        clear hb1 hb2 hc_w1 hf_w1 n0
        go_wp2
        go_loopg [7, 8, 9] m (fun g t7 t8 i wr => ∃ k : Nat, k ≤ m ∧ g = m - k ∧ i = .int .i64 k ∧ t7 = .int .i64 (gp l (fun k => max (loss l fs k) (-(loss l fs k))) k).1 ∧ t8 = .int .i64 (gp l (fun k => max (loss l fs k) (-(loss l fs k))) k).2 ∧ Hid (Below w.heap.size w wr ∧ wr.cell? ⟨w.heap.size, 1, none⟩ = some (.slice (some ⟨b0, off0, none⟩) m c)))
        case atStart => exact ⟨0, by omega, rfl, rfl, rfl, rfl, hid ⟨HB2.out, N1.out⟩⟩
        case round =>
          obtain ⟨k, hk, rfl, rfl, rfl, rfl, hB⟩ := hrel
          by_cases hlt : k < m
          · obtain ⟨_, _, e1, _, hck⟩ := (H'.out.below hB.out.1).2 k hlt
            cases e1
            obtain ⟨_, _, e2, _, x0, x1, x2, x3⟩ := QAt.get (H.out.below hB.out.1) k hlt
            cases e2
            have hp := (goodNet_pipe HG.out (k := k) (by have := HL.out; omega)).2.2.2.2
            have hq8 := HB8.out _ (getD_mem' (l := fs) (k := k) (by have := HL'.out; omega))
            have hlf := (loss_fit hp hq8).2
            have X := hid (show Below w.heap.size w wr.drew ∧ wr.drew.cell? ⟨w.heap.size, 1, none⟩ = some (.slice (some ⟨b0, off0, none⟩) m c) ∧ wr.drew.cell? ⟨b0, off0 + k * 4, none⟩ = some (.int .i64 (pp l k).1) ∧ wr.drew.cell? ⟨b0, off0 + k * 4 + 1, none⟩ = some (.int .i64 (pp l k).2.1) ∧ wr.drew.cell? ⟨b0, off0 + k * 4 + 2, none⟩ = some (.int .i64 (pp l k).2.2.1) ∧ wr.drew.cell? ⟨b0, off0 + k * 4 + 3, none⟩ = some (.int .i64 (pp l k).2.2.2) ∧ wr.drew.cell? ⟨b1, off1 + k, none⟩ = some (.int .i64 (fs[k]?.getD 0)) from ⟨hB.out.1.drew, hB.out.2, x0, x1, x2, x3, hck⟩)
            have KEEP : Hid (∀ wy wz : World, (Below w.heap.size w wy ∧ wy.cell? ⟨w.heap.size, 1, none⟩ = some (.slice (some ⟨b0, off0, none⟩) m c) ∧ wy.cell? ⟨b0, off0 + k * 4, none⟩ = some (.int .i64 (pp l k).1) ∧ wy.cell? ⟨b0, off0 + k * 4 + 1, none⟩ = some (.int .i64 (pp l k).2.1) ∧ wy.cell? ⟨b0, off0 + k * 4 + 2, none⟩ = some (.int .i64 (pp l k).2.2.1) ∧ wy.cell? ⟨b0, off0 + k * 4 + 3, none⟩ = some (.int .i64 (pp l k).2.2.2) ∧ wy.cell? ⟨b1, off1 + k, none⟩ = some (.int .i64 (fs[k]?.getD 0))) → Below wy.heap.size wy wz → (Below w.heap.size w wz ∧ wz.cell? ⟨w.heap.size, 1, none⟩ = some (.slice (some ⟨b0, off0, none⟩) m c) ∧ wz.cell? ⟨b0, off0 + k * 4, none⟩ = some (.int .i64 (pp l k).1) ∧ wz.cell? ⟨b0, off0 + k * 4 + 1, none⟩ = some (.int .i64 (pp l k).2.1) ∧ wz.cell? ⟨b0, off0 + k * 4 + 2, none⟩ = some (.int .i64 (pp l k).2.2.1) ∧ wz.cell? ⟨b0, off0 + k * 4 + 3, none⟩ = some (.int .i64 (pp l k).2.2.2) ∧ wz.cell? ⟨b1, off1 + k, none⟩ = some (.int .i64 (fs[k]?.getD 0)))) :=
              hid (fun wy wz ⟨h0, z0, z1, z2, z3, z4, z5⟩ hb => ⟨bstep h0 hb, (hb.cell (World.block_lt_of_cell? wy _ z0)).trans z0, (hb.cell (World.block_lt_of_cell? wy _ z1)).trans z1, (hb.cell (World.block_lt_of_cell? wy _ z2)).trans z2, (hb.cell (World.block_lt_of_cell? wy _ z3)).trans z3, (hb.cell (World.block_lt_of_cell? wy _ z4)).trans z4, (hb.cell (World.block_lt_of_cell? wy _ z5)).trans z5⟩)
            clear hck x0 x1 x2 x3
            by_cases hgt : (gp l (fun k => max (loss l fs k) (-(loss l fs k))) k).2 < max (loss l fs k) (-(loss l fs k))
            · have E := hid (gp_yes (l := l) (g := fun k => max (loss l fs k) (-(loss l fs k))) hgt)
              have hgt' : ((gp l (fun k => max (loss l fs k) (-(loss l fs k))) k).2 < max ((pp l k).2.2.2 * fs[k]?.getD 0 * max (fs[k]?.getD 0) (-(fs[k]?.getD 0))) (-((pp l k).2.2.2 * fs[k]?.getD 0 * max (fs[k]?.getD 0) (-(fs[k]?.getD 0))))) := hgt
              clear hgt
              go_upto_region 7 with fail
              refine wp_region_calm (C := (fun w' => Below w.heap.size w w' ∧ w'.cell? ⟨w.heap.size, 1, none⟩ = some (.slice (some ⟨b0, off0, none⟩) m c) ∧ w'.cell? ⟨b0, off0 + k * 4, none⟩ = some (.int .i64 (pp l k).1) ∧ w'.cell? ⟨b0, off0 + k * 4 + 1, none⟩ = some (.int .i64 (pp l k).2.1) ∧ w'.cell? ⟨b0, off0 + k * 4 + 2, none⟩ = some (.int .i64 (pp l k).2.2.1) ∧ w'.cell? ⟨b0, off0 + k * 4 + 3, none⟩ = some (.int .i64 (pp l k).2.2.2) ∧ w'.cell? ⟨b1, off1 + k, none⟩ = some (.int .i64 (fs[k]?.getD 0)))) (by kernel_rfl) (by kernel_rfl) (X.out) ?_
              repeat
                first
                  | go_big_quiet_skip
                  | (go_big_quiet_want
                     first
                       | (unfold Oper.quiet
                          apply Exists.intro
                          refine ⟨fun wq hq => ?_, ?_⟩
                          · (try dsimp only at hq
                             simp [go_sem, Oper.quietAt, Oper.quietUpon, BigFrame.eval_const, BigFrame.eval_global, BigFrame.eval_func, ↓IntWalk.iteOmega, *]
                             first | done | rfl | (first | (refine calm_call hq KEEP.out (s_l9Loss _ _ _ _ _ _ hp hq8) rfl) | (refine calm_same hq (s_l8Abs _ _ (by omega)) rfl)))
                          simp only [Act.put, List.setIfInBounds_toArray, List.set_cons_succ, List.set_cons_zero]
                          go_big_quiet_on))
              refine wpQuiet_nil ?_
              intro wc hcalm
              try dsimp only at hcalm
              have HB := hid (show Below w.heap.size w wc ∧ wc.cell? ⟨w.heap.size, 1, none⟩ = some (.slice (some ⟨b0, off0, none⟩) m c) from ⟨hcalm.1, hcalm.2.1⟩)
              have n1 := hcalm.2.1
              have x0 := hcalm.2.2.1
              have hz1 := World.block_lt_of_cell? wc _ n1
              have hz2 := World.block_lt_of_cell? wc _ x0
              clear hcalm
              go_wp2
              go_roundg (m - (k + 1))
              case rel => first | exact ⟨k + 1, by omega, rfl, by go_num, by rw [E.out] <;> rfl, by rw [E.out] <;> rfl, HB⟩ | ((repeat apply Exists.intro); exact ⟨⟨k + 1, by omega, rfl, by go_num, by rw [E.out] <;> rfl, by rw [E.out] <;> rfl, HB⟩, rfl⟩)
              case measure => omega
            · have E := hid (gp_no (l := l) (g := fun k => max (loss l fs k) (-(loss l fs k))) hgt)
              have hgt' : ¬ ((gp l (fun k => max (loss l fs k) (-(loss l fs k))) k).2 < max ((pp l k).2.2.2 * fs[k]?.getD 0 * max (fs[k]?.getD 0) (-(fs[k]?.getD 0))) (-((pp l k).2.2.2 * fs[k]?.getD 0 * max (fs[k]?.getD 0) (-(fs[k]?.getD 0))))) := hgt
              clear hgt
              go_upto_region 7 with fail
              refine wp_region_calm (C := (fun w' => Below w.heap.size w w' ∧ w'.cell? ⟨w.heap.size, 1, none⟩ = some (.slice (some ⟨b0, off0, none⟩) m c) ∧ w'.cell? ⟨b0, off0 + k * 4, none⟩ = some (.int .i64 (pp l k).1) ∧ w'.cell? ⟨b0, off0 + k * 4 + 1, none⟩ = some (.int .i64 (pp l k).2.1) ∧ w'.cell? ⟨b0, off0 + k * 4 + 2, none⟩ = some (.int .i64 (pp l k).2.2.1) ∧ w'.cell? ⟨b0, off0 + k * 4 + 3, none⟩ = some (.int .i64 (pp l k).2.2.2) ∧ w'.cell? ⟨b1, off1 + k, none⟩ = some (.int .i64 (fs[k]?.getD 0)))) (by kernel_rfl) (by kernel_rfl) (X.out) ?_
              repeat
                first
                  | go_big_quiet_skip
                  | (go_big_quiet_want
                     first
                       | (unfold Oper.quiet
                          apply Exists.intro
                          refine ⟨fun wq hq => ?_, ?_⟩
                          · (try dsimp only at hq
                             simp [go_sem, Oper.quietAt, Oper.quietUpon, BigFrame.eval_const, BigFrame.eval_global, BigFrame.eval_func, ↓IntWalk.iteOmega, *]
                             first | done | rfl | (first | (refine calm_call hq KEEP.out (s_l9Loss _ _ _ _ _ _ hp hq8) rfl) | (refine calm_same hq (s_l8Abs _ _ (by omega)) rfl)))
                          simp only [Act.put, List.setIfInBounds_toArray, List.set_cons_succ, List.set_cons_zero]
                          go_big_quiet_on))
              refine wpQuiet_nil ?_
              intro wc hcalm
              try dsimp only at hcalm
              have HB := hid (show Below w.heap.size w wc ∧ wc.cell? ⟨w.heap.size, 1, none⟩ = some (.slice (some ⟨b0, off0, none⟩) m c) from ⟨hcalm.1, hcalm.2.1⟩)
              have n1 := hcalm.2.1
              have x0 := hcalm.2.2.1
              have hz1 := World.block_lt_of_cell? wc _ n1
              have hz2 := World.block_lt_of_cell? wc _ x0
              clear hcalm
              go_wp2
              go_roundg (m - (k + 1))
              case rel => first | exact ⟨k + 1, by omega, rfl, by go_num, by rw [E.out], by rw [E.out], HB⟩ | ((repeat apply Exists.intro); exact ⟨⟨k + 1, by omega, rfl, by go_num, by rw [E.out], by rw [E.out], HB⟩, rfl⟩)
              case measure => omega
          · obtain rfl : k = m := by omega
            go_wp2
            go_ret3
            exact ⟨rfl, hB.out.1⟩

end Go.Proofs.Ytlnhikhpkcgegaa

