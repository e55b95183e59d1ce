/-
  Texts of this claim, joined: AlongS.
-/
import Derived.Test.YtlnhikhpkcgegaaLo18
/-
  LossAlong, in the reference.
-/
set_option linter.unusedVariables false
set_option linter.unusedSimpArgs false
namespace Go.Proofs.Ytlnhikhpkcgegaa
open Go.RowKit

set_option maxRecDepth 100000 in
set_option maxHeartbeats 8000000 in
theorem s_LossAlong (N v t : Int) (a p : Option Addr) (n c m e0 : Nat) (l : List Pip) (fs : List Int) (w : World) (h : QAt w a n l) (h' : IntsAt w p m fs) (hn : n ≤ 1048576) (hm : m ≤ 1048576) (x : Int) (b : Bool) (hR : alongR N l fs v t = (x, b)) :
    Calls Try.prog 43 #[.agg #[.int .i64 N, .slice a n c], .slice p m e0, .int .i64 v, .int .i64 t] w fun e w' => e = .returned (.tuple #[.int .i64 x, .bool b]) ∧ Below w.heap.size w w' := by
  have hl := h.1
  have hl' := h'.1
  have H := hid h
  have H' := hid h'
  clear h h'
  cases h1 : goodNet N l && inR v 1 N
  · rw [alongR_no (.inl h1)] at hR
    cases hR
    have H1 := hid h1
    clear h1
    go_enter Try.func43, Try.ntmps43
    go_wp2_with fail
    refine (s_l2Node _ _ _ _ _ l _ (H.out.below (by go_grown)) hn).mono ?_
    rintro e w1 ⟨rfl, hb1⟩
    rw [H1.out]
    obtain ⟨hc_w1, hf_w1⟩ := bcell hb1
    have hz_w1_0 : w.heap.size < w1.heap.size := by have := hb1.size; simp only [World.size_alloc] at this; omega
    have HB1 := hid (bstep (by go_grown) hb1 : Below w.heap.size w w1)
    go_wp2
    go_ret2
    exact ⟨rfl, HB1.out⟩
  · have H1 := hid h1
    obtain ⟨k1, k2⟩ := (Bool.and_eq_true _ _).mp h1
    cases h2 : inR t 1 N
    · rw [alongR_no (.inr (.inl h2))] at hR
      cases hR
      have H2 := hid (show (goodNet N l && inR t 1 N) = false by rw [h2]; simp)
      clear h1 h2 k1 k2
      go_enter Try.func43, Try.ntmps43
      go_wp2_with fail
      refine (s_l2Node _ _ _ _ _ l _ (H.out.below (by go_grown)) hn).mono ?_
      rintro e w1 ⟨rfl, hb1⟩
      rw [H1.out]
      obtain ⟨hc_w1, hf_w1⟩ := bcell hb1
      have hz_w1_0 : w.heap.size < w1.heap.size := by have := hb1.size; simp only [World.size_alloc] at this; omega
      have HB1 := hid (bstep (by go_grown) hb1 : Below w.heap.size w w1)
      go_wp2_with fail
      refine (s_l2Node _ _ _ _ _ l _ (H.out.below HB1.out) hn).mono ?_
      rintro e w2 ⟨rfl, hb2⟩
      rw [H2.out]
      obtain ⟨hc_w2, hf_w2⟩ := bcell hb2
      have hz_w2_0 : w.heap.size < w2.heap.size := by have := hb2.size; omega
      have HB2 := hid (bstep HB1.out hb2 : Below w.heap.size w w2)
      go_wp2
      go_ret2
      exact ⟨rfl, HB2.out⟩
    · have H2 := hid (show (goodNet N l && inR t 1 N) = true by rw [h2, k1]; simp)
      have hN := (goodNet_get k1).1
      obtain ⟨M, rfl⟩ : ∃ M : Nat, N = M := ⟨N.toNat, by omega⟩
      have e1 := inR_iff.1 k2
      have e2 := inR_iff.1 h2
      obtain ⟨v0, rfl⟩ : ∃ v0 : Nat, v = v0 := ⟨v.toNat, by omega⟩
      obtain ⟨t0, rfl⟩ : ∃ t0 : Nat, t = t0 := ⟨t.toNat, by omega⟩
      have hv : 1 ≤ v0 ∧ v0 ≤ M := by omega
      have ht : 1 ≤ t0 ∧ t0 ≤ M := by omega
      have HG := hid k1
      have hM : M ≤ 8 := by omega
      cases h3 : goodFl l.length fs
      · rw [alongR_no (.inr (.inr (.inl h3)))] at hR
        cases hR
        have H3 := hid (show goodFl n fs = false by rw [← hl]; exact h3)
        clear h1 h2 h3 k1 k2 hN
        go_enter Try.func43, Try.ntmps43
        go_wp2_with fail
        refine (s_l2Node _ _ _ _ _ l _ (H.out.below (by go_grown)) hn).mono ?_
        rintro e w1 ⟨rfl, hb1⟩
        rw [H1.out]
        obtain ⟨hc_w1, hf_w1⟩ := bcell hb1
        have hz_w1_0 : w.heap.size < w1.heap.size := by have := hb1.size; simp only [World.size_alloc] at this; omega
        have HB1 := hid (bstep (by go_grown) hb1 : Below w.heap.size w w1)
        go_wp2_with fail
        refine (s_l2Node _ _ _ _ _ l _ (H.out.below HB1.out) hn).mono ?_
        rintro e w2 ⟨rfl, hb2⟩
        rw [H2.out]
        obtain ⟨hc_w2, hf_w2⟩ := bcell hb2
        have hz_w2_0 : w.heap.size < w2.heap.size := by have := hb2.size; omega
        have HB2 := hid (bstep HB1.out hb2 : Below w.heap.size w w2)
        go_wp2_with fail
        refine (s_l8Flows _ _ _ _ _ _ _ fs _ (H'.out.below HB2.out) hm).mono ?_
        rintro e w3 ⟨rfl, hb3⟩
        rw [H3.out]
        obtain ⟨hc_w3, hf_w3⟩ := bcell hb3
        have hz_w3_0 : w.heap.size < w3.heap.size := by have := hb3.size; omega
        have HB3 := hid (bstep HB2.out hb3 : Below w.heap.size w w3)
        go_wp2
        go_ret2
        exact ⟨rfl, HB3.out⟩
      · have H3 := hid (show goodFl n fs = true by rw [← hl]; exact h3)
        have hcon : 0 ≤ far l 0 v0 t0 ↔ 0 ≤ far l 0 t0 v0 := ⟨fun h => Conn.symm k1 h, fun h => Conn.symm k1 h⟩
        have hlen := reachL_len (N := (M : Int)) (l := l) (wo := 0) (s := (v0 : Int))
        by_cases hf : far l 0 t0 v0 < 0
        · rw [alongR_no (.inr (.inr (.inr hf)))] at hR
          cases hR
          have FT := hid (show decide ((t0 : Int) ∈ reachL M l 0 v0) = false by
            simp only [decide_eq_false_iff_not]
            intro h9
            rw [to_reached (by omega)] at h9
            have := hcon.1 h9
            omega)
          clear h1 h2 h3 k1 k2 hN hcon hf
          go_enter Try.func43, Try.ntmps43
          go_wp2_with fail
          refine (s_l2Node _ _ _ _ _ l _ (H.out.below (by go_grown)) hn).mono ?_
          rintro e w1 ⟨rfl, hb1⟩
          rw [H1.out]
          obtain ⟨hc_w1, hf_w1⟩ := bcell hb1
          have hz_w1_0 : w.heap.size < w1.heap.size := by have := hb1.size; simp only [World.size_alloc] at this; omega
          have HB1 := hid (bstep (by go_grown) hb1 : Below w.heap.size w w1)
          go_wp2_with fail
          refine (s_l2Node _ _ _ _ _ l _ (H.out.below HB1.out) hn).mono ?_
          rintro e w2 ⟨rfl, hb2⟩
          rw [H2.out]
          obtain ⟨hc_w2, hf_w2⟩ := bcell hb2
          have hz_w2_0 : w.heap.size < w2.heap.size := by have := hb2.size; omega
          have HB2 := hid (bstep HB1.out hb2 : Below w.heap.size w w2)
          go_wp2_with fail
          refine (s_l8Flows _ _ _ _ _ _ _ fs _ (H'.out.below HB2.out) hm).mono ?_
          rintro e w3 ⟨rfl, hb3⟩
          rw [H3.out]
          obtain ⟨hc_w3, hf_w3⟩ := bcell hb3
          have hz_w3_0 : w.heap.size < w3.heap.size := by have := hb3.size; omega
          have HB3 := hid (bstep HB2.out hb3 : Below w.heap.size w w3)
          go_wp2_with fail
          refine (s_l2Reached M v0 _ _ _ l _ (H.out.below HB3.out) HG.out (by omega)).mono ?_
          rintro e w4 ⟨g4, c4, rfl, ho4, hb4⟩
          obtain ⟨hc_w4, hf_w4⟩ := bcell hb4
          have hz_w4_0 : w.heap.size < w4.heap.size := by have := hb4.size; omega
          have HB4 := hid (bstep HB3.out hb4 : Below w.heap.size w w4)
          go_wp2_with fail
          refine (s_l1Has_is _ _ _ _ _ _ ho4.at (by omega) false FT.out).mono ?_
          rintro e _ ⟨rfl, rfl⟩
          clear ho4
          go_wp2
          go_ret2
          exact ⟨rfl, HB4.out⟩
        · obtain ⟨d, hd⟩ : ∃ d : Nat, far l 0 t0 v0 = d := ⟨(far l 0 t0 v0).toNat, by omega⟩
          have e0' : alongR M l fs v0 t0 = (lsum l fs (far l 0 t0) v0 d, true) := by
            unfold alongR
            rw [if_pos ⟨h1, h2, h3, by omega⟩, hd]
            rfl
          rw [e0'] at hR
          cases hR
          have hmn : m = n := by have := (goodFl_iff.1 h3).1; omega
          subst hmn
          have HDF := hid hd
          have FT := hid (show decide ((t0 : Int) ∈ reachL M l 0 v0) = true by
            simp only [decide_eq_true_eq]
            rw [to_reached (by omega)]
            exact hcon.2 (by omega))
          clear h1 h2 h3 k1 k2 hN hcon hf hd e0'
          go_enter Try.func43, Try.ntmps43
          go_wp2_with fail
          refine (s_l2Node _ _ _ _ _ l _ (H.out.below (by go_grown)) hn).mono ?_
          rintro e w1 ⟨rfl, hb1⟩
          rw [H1.out]
          obtain ⟨hc_w1, hf_w1⟩ := bcell hb1
          have hz_w1_0 : w.heap.size < w1.heap.size := by have := hb1.size; simp only [World.size_alloc] at this; omega
          have HB1 := hid (bstep (by go_grown) hb1 : Below w.heap.size w w1)
          go_wp2_with fail
          refine (s_l2Node _ _ _ _ _ l _ (H.out.below HB1.out) hn).mono ?_
          rintro e w2 ⟨rfl, hb2⟩
          rw [H2.out]
          obtain ⟨hc_w2, hf_w2⟩ := bcell hb2
          have hz_w2_0 : w.heap.size < w2.heap.size := by have := hb2.size; omega
          have HB2 := hid (bstep HB1.out hb2 : Below w.heap.size w w2)
          go_wp2_with fail
          refine (s_l8Flows _ _ _ _ _ _ _ fs _ (H'.out.below HB2.out) hm).mono ?_
          rintro e w3 ⟨rfl, hb3⟩
          rw [H3.out]
          obtain ⟨hc_w3, hf_w3⟩ := bcell hb3
          have hz_w3_0 : w.heap.size < w3.heap.size := by have := hb3.size; omega
          have HB3 := hid (bstep HB2.out hb3 : Below w.heap.size w w3)
          go_wp2_with fail
          refine (s_l2Reached M v0 _ _ _ l _ (H.out.below HB3.out) HG.out (by omega)).mono ?_
          rintro e w4 ⟨g4, c4, rfl, ho4, hb4⟩
          obtain ⟨hc_w4, hf_w4⟩ := bcell hb4
          have hz_w4_0 : w.heap.size < w4.heap.size := by have := hb4.size; omega
          have HB4 := hid (bstep HB3.out hb4 : Below w.heap.size w w4)
          go_wp2_with fail
          refine (s_l1Has_is _ _ _ _ _ _ ho4.at (by omega) true FT.out).mono ?_
          rintro e _ ⟨rfl, rfl⟩
          clear ho4
          go_wp2_with fail
          refine (s_l9Along M v0 t0 _ _ _ _ _ l fs _ (H.out.below HB4.out) (H'.out.below HB4.out) HG.out H3.out hv ht d HDF.out).mono ?_
          rintro e w5 ⟨rfl, hb5⟩
          go_wp2
          go_ret2
          exact ⟨rfl, bstep HB4.out hb5⟩

end Go.Proofs.Ytlnhikhpkcgegaa

