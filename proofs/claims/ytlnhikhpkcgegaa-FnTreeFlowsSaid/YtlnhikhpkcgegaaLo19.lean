/-
  Texts of this claim, joined: AlongS, DownApi, NetH2, BalQ, VHas.
-/
import Derived.Test.YtlnhikhpkcgegaaLo3
import Derived.Test.YtlnhikhpkcgegaaLo6
import Derived.Test.YtlnhikhpkcgegaaLo9
import Derived.Test.YtlnhikhpkcgegaaLo10
import Derived.Test.YtlnhikhpkcgegaaLo12
import Derived.Test.YtlnhikhpkcgegaaLo13
import Derived.Test.YtlnhikhpkcgegaaLo15
import Derived.Test.YtlnhikhpkcgegaaLo18
/-
  LossAlong, in the reference.
-/
set_option linter.unusedVariables false
set_option linter.unusedSimpArgs false
namespace Go.Proofs.Ytlnhikhpkcgegaa
open Go.RowKit

set_option maxRecDepth 100000 in
set_option maxHeartbeats 8000000 in
theorem s_LossAlong (N v t : Int) (a p : Option Addr) (n c m e0 : Nat) (l : List Pip) (fs : List Int) (w : World) (h : QAt w a n l) (h' : IntsAt w p m fs) (hn : n ≤ 1048576) (hm : m ≤ 1048576) (x : Int) (b : Bool) (hR : alongR N l fs v t = (x, b)) :
    Calls Try.prog 43 #[.agg #[.int .i64 N, .slice a n c], .slice p m e0, .int .i64 v, .int .i64 t] w fun e w' => e = .returned (.tuple #[.int .i64 x, .bool b]) ∧ Below w.heap.size w w' := by
  have hl := h.1
  have hl' := h'.1
  have H := hid h
  have H' := hid h'
  clear h h'
  cases h1 : goodNet N l && inR v 1 N
  · rw [alongR_no (.inl h1)] at hR
    cases hR
    have H1 := hid h1
    clear h1
    go_enter Try.func43, Try.ntmps43
    go_wp2_with fail
    refine (s_l2Node _ _ _ _ _ l _ (H.out.below (by go_grown)) hn).mono ?_
    rintro e w1 ⟨rfl, hb1⟩
    rw [H1.out]
    obtain ⟨hc_w1, hf_w1⟩ := bcell hb1
    have hz_w1_0 : w.heap.size < w1.heap.size := by have := hb1.size; simp only [World.size_alloc] at this; omega
    have HB1 := hid (bstep (by go_grown) hb1 : Below w.heap.size w w1)
    go_wp2
    go_ret2
    exact ⟨rfl, HB1.out⟩
  · have H1 := hid h1
    obtain ⟨k1, k2⟩ := (Bool.and_eq_true _ _).mp h1
    cases h2 : inR t 1 N
    · rw [alongR_no (.inr (.inl h2))] at hR
      cases hR
      have H2 := hid (show (goodNet N l && inR t 1 N) = false by rw [h2]; simp)
      clear h1 h2 k1 k2
      go_enter Try.func43, Try.ntmps43
      go_wp2_with fail
      refine (s_l2Node _ _ _ _ _ l _ (H.out.below (by go_grown)) hn).mono ?_
      rintro e w1 ⟨rfl, hb1⟩
      rw [H1.out]
      obtain ⟨hc_w1, hf_w1⟩ := bcell hb1
      have hz_w1_0 : w.heap.size < w1.heap.size := by have := hb1.size; simp only [World.size_alloc] at this; omega
      have HB1 := hid (bstep (by go_grown) hb1 : Below w.heap.size w w1)
      go_wp2_with fail
      refine (s_l2Node _ _ _ _ _ l _ (H.out.below HB1.out) hn).mono ?_
      rintro e w2 ⟨rfl, hb2⟩
      rw [H2.out]
      obtain ⟨hc_w2, hf_w2⟩ := bcell hb2
      have hz_w2_0 : w.heap.size < w2.heap.size := by have := hb2.size; omega
      have HB2 := hid (bstep HB1.out hb2 : Below w.heap.size w w2)
      go_wp2
      go_ret2
      exact ⟨rfl, HB2.out⟩
    · have H2 := hid (show (goodNet N l && inR t 1 N) = true by rw [h2, k1]; simp)
      have hN := (goodNet_get k1).1
      obtain ⟨M, rfl⟩ : ∃ M : Nat, N = M := ⟨N.toNat, by omega⟩
      have e1 := inR_iff.1 k2
      have e2 := inR_iff.1 h2
      obtain ⟨v0, rfl⟩ : ∃ v0 : Nat, v = v0 := ⟨v.toNat, by omega⟩
      obtain ⟨t0, rfl⟩ : ∃ t0 : Nat, t = t0 := ⟨t.toNat, by omega⟩
      have hv : 1 ≤ v0 ∧ v0 ≤ M := by omega
      have ht : 1 ≤ t0 ∧ t0 ≤ M := by omega
      have HG := hid k1
      have hM : M ≤ 8 := by omega
      cases h3 : goodFl l.length fs
      · rw [alongR_no (.inr (.inr (.inl h3)))] at hR
        cases hR
        have H3 := hid (show goodFl n fs = false by rw [← hl]; exact h3)
        clear h1 h2 h3 k1 k2 hN
        go_enter Try.func43, Try.ntmps43
        go_wp2_with fail
        refine (s_l2Node _ _ _ _ _ l _ (H.out.below (by go_grown)) hn).mono ?_
        rintro e w1 ⟨rfl, hb1⟩
        rw [H1.out]
        obtain ⟨hc_w1, hf_w1⟩ := bcell hb1
        have hz_w1_0 : w.heap.size < w1.heap.size := by have := hb1.size; simp only [World.size_alloc] at this; omega
        have HB1 := hid (bstep (by go_grown) hb1 : Below w.heap.size w w1)
        go_wp2_with fail
        refine (s_l2Node _ _ _ _ _ l _ (H.out.below HB1.out) hn).mono ?_
        rintro e w2 ⟨rfl, hb2⟩
        rw [H2.out]
        obtain ⟨hc_w2, hf_w2⟩ := bcell hb2
        have hz_w2_0 : w.heap.size < w2.heap.size := by have := hb2.size; omega
        have HB2 := hid (bstep HB1.out hb2 : Below w.heap.size w w2)
        go_wp2_with fail
        refine (s_l8Flows _ _ _ _ _ _ _ fs _ (H'.out.below HB2.out) hm).mono ?_
        rintro e w3 ⟨rfl, hb3⟩
        rw [H3.out]
        obtain ⟨hc_w3, hf_w3⟩ := bcell hb3
        have hz_w3_0 : w.heap.size < w3.heap.size := by have := hb3.size; omega
        have HB3 := hid (bstep HB2.out hb3 : Below w.heap.size w w3)
        go_wp2
        go_ret2
        exact ⟨rfl, HB3.out⟩
      · have H3 := hid (show goodFl n fs = true by rw [← hl]; exact h3)
        have hcon : 0 ≤ far l 0 v0 t0 ↔ 0 ≤ far l 0 t0 v0 := ⟨fun h => Conn.symm k1 h, fun h => Conn.symm k1 h⟩
        have hlen := reachL_len (N := (M : Int)) (l := l) (wo := 0) (s := (v0 : Int))
        by_cases hf : far l 0 t0 v0 < 0
        · rw [alongR_no (.inr (.inr (.inr hf)))] at hR
          cases hR
          have FT := hid (show decide ((t0 : Int) ∈ reachL M l 0 v0) = false by
            simp only [decide_eq_false_iff_not]
            intro h9
            rw [to_reached (by omega)] at h9
            have := hcon.1 h9
            omega)
          clear h1 h2 h3 k1 k2 hN hcon hf
          go_enter Try.func43, Try.ntmps43
          go_wp2_with fail
          refine (s_l2Node _ _ _ _ _ l _ (H.out.below (by go_grown)) hn).mono ?_
          rintro e w1 ⟨rfl, hb1⟩
          rw [H1.out]
          obtain ⟨hc_w1, hf_w1⟩ := bcell hb1
          have hz_w1_0 : w.heap.size < w1.heap.size := by have := hb1.size; simp only [World.size_alloc] at this; omega
          have HB1 := hid (bstep (by go_grown) hb1 : Below w.heap.size w w1)
          go_wp2_with fail
          refine (s_l2Node _ _ _ _ _ l _ (H.out.below HB1.out) hn).mono ?_
          rintro e w2 ⟨rfl, hb2⟩
          rw [H2.out]
          obtain ⟨hc_w2, hf_w2⟩ := bcell hb2
          have hz_w2_0 : w.heap.size < w2.heap.size := by have := hb2.size; omega
          have HB2 := hid (bstep HB1.out hb2 : Below w.heap.size w w2)
          go_wp2_with fail
          refine (s_l8Flows _ _ _ _ _ _ _ fs _ (H'.out.below HB2.out) hm).mono ?_
          rintro e w3 ⟨rfl, hb3⟩
          rw [H3.out]
          obtain ⟨hc_w3, hf_w3⟩ := bcell hb3
          have hz_w3_0 : w.heap.size < w3.heap.size := by have := hb3.size; omega
          have HB3 := hid (bstep HB2.out hb3 : Below w.heap.size w w3)
          go_wp2_with fail
          refine (s_l2Reached M v0 _ _ _ l _ (H.out.below HB3.out) HG.out (by omega)).mono ?_
          rintro e w4 ⟨g4, c4, rfl, ho4, hb4⟩
          obtain ⟨hc_w4, hf_w4⟩ := bcell hb4
          have hz_w4_0 : w.heap.size < w4.heap.size := by have := hb4.size; omega
          have HB4 := hid (bstep HB3.out hb4 : Below w.heap.size w w4)
          go_wp2_with fail
          refine (s_l1Has_is _ _ _ _ _ _ ho4.at (by omega) false FT.out).mono ?_
          rintro e _ ⟨rfl, rfl⟩
          clear ho4
          go_wp2
          go_ret2
          exact ⟨rfl, HB4.out⟩
        · obtain ⟨d, hd⟩ : ∃ d : Nat, far l 0 t0 v0 = d := ⟨(far l 0 t0 v0).toNat, by omega⟩
          have e0' : alongR M l fs v0 t0 = (lsum l fs (far l 0 t0) v0 d, true) := by
            unfold alongR
            rw [if_pos ⟨h1, h2, h3, by omega⟩, hd]
            rfl
          rw [e0'] at hR
          cases hR
          have hmn : m = n := by have := (goodFl_iff.1 h3).1; omega
          subst hmn
          have HDF := hid hd
          have FT := hid (show decide ((t0 : Int) ∈ reachL M l 0 v0) = true by
            simp only [decide_eq_true_eq]
            rw [to_reached (by omega)]
            exact hcon.2 (by omega))
          clear h1 h2 h3 k1 k2 hN hcon hf hd e0'
          go_enter Try.func43, Try.ntmps43
          go_wp2_with fail
          refine (s_l2Node _ _ _ _ _ l _ (H.out.below (by go_grown)) hn).mono ?_
          rintro e w1 ⟨rfl, hb1⟩
          rw [H1.out]
          obtain ⟨hc_w1, hf_w1⟩ := bcell hb1
          have hz_w1_0 : w.heap.size < w1.heap.size := by have := hb1.size; simp only [World.size_alloc] at this; omega
          have HB1 := hid (bstep (by go_grown) hb1 : Below w.heap.size w w1)
          go_wp2_with fail
          refine (s_l2Node _ _ _ _ _ l _ (H.out.below HB1.out) hn).mono ?_
          rintro e w2 ⟨rfl, hb2⟩
          rw [H2.out]
          obtain ⟨hc_w2, hf_w2⟩ := bcell hb2
          have hz_w2_0 : w.heap.size < w2.heap.size := by have := hb2.size; omega
          have HB2 := hid (bstep HB1.out hb2 : Below w.heap.size w w2)
          go_wp2_with fail
          refine (s_l8Flows _ _ _ _ _ _ _ fs _ (H'.out.below HB2.out) hm).mono ?_
          rintro e w3 ⟨rfl, hb3⟩
          rw [H3.out]
          obtain ⟨hc_w3, hf_w3⟩ := bcell hb3
          have hz_w3_0 : w.heap.size < w3.heap.size := by have := hb3.size; omega
          have HB3 := hid (bstep HB2.out hb3 : Below w.heap.size w w3)
          go_wp2_with fail
          refine (s_l2Reached M v0 _ _ _ l _ (H.out.below HB3.out) HG.out (by omega)).mono ?_
          rintro e w4 ⟨g4, c4, rfl, ho4, hb4⟩
          obtain ⟨hc_w4, hf_w4⟩ := bcell hb4
          have hz_w4_0 : w.heap.size < w4.heap.size := by have := hb4.size; omega
          have HB4 := hid (bstep HB3.out hb4 : Below w.heap.size w w4)
          go_wp2_with fail
          refine (s_l1Has_is _ _ _ _ _ _ ho4.at (by omega) true FT.out).mono ?_
          rintro e _ ⟨rfl, rfl⟩
          clear ho4
          go_wp2_with fail
          refine (s_l9Along M v0 t0 _ _ _ _ _ l fs _ (H.out.below HB4.out) (H'.out.below HB4.out) HG.out H3.out hv ht d HDF.out).mono ?_
          rintro e w5 ⟨rfl, hb5⟩
          go_wp2
          go_ret2
          exact ⟨rfl, bstep HB4.out hb5⟩

end Go.Proofs.Ytlnhikhpkcgegaa

/-
  DownstreamNodes, in the program and in the reference.
-/
set_option linter.unusedVariables false
set_option linter.unusedSimpArgs false
namespace Go.Proofs.Ytlnhikhpkcgegaa
open Go.RowKit

theorem findQ_id {l : List Pip} {id : Int} {k : Nat} (h : findQ l id = k) : (pp l k).1 = id := by
  unfold findQ at h
  split at h
  · rename_i i hi
    obtain rfl : i = k := by omega
    rw [List.findIdx?_eq_some_iff_getElem] at hi
    obtain ⟨h1, h2, -⟩ := hi
    rw [pp_get h1]
    simpa using h2
  · omega

theorem i_hasPipe (N x : Int) (a : Option Addr) (n c : Nat) (l : List Pip) (w : World) (h : QAt w a n l) (hn : n ≤ 1048576) :
    Calls Try.prog 78 #[.agg #[.int .i64 N, .slice a n c], .int .i64 x] w fun e w' => e = .returned (.bool (goodNet N l && decide (0 ≤ findQ l x))) ∧ Below w.heap.size w w' := by
  have H := hid h
  clear h
  cases h1 : goodNet N l
  · have HG := hid h1
    clear h1
    go_enter Try.func78, Try.ntmps78
    go_wp2_with fail
    refine (i_IsValidNetwork N _ _ _ l _ (H.out.below (by go_grown)) (by omega)).mono ?_
    rintro e w1 ⟨rfl, hb1⟩
    rw [HG.out]
    obtain ⟨hc_w1, hf_w1⟩ := bcell hb1
    have hz_w1_0 : w.heap.size < w1.heap.size := by have := hb1.size; simp only [World.size_alloc] at this; omega
    have HB1 := hid (bstep (by go_grown) hb1 : Below w.heap.size w w1)
    go_wp2
    go_ret
    exact ⟨rfl, HB1.out⟩
  · have HG := hid h1
    clear h1
    go_enter Try.func78, Try.ntmps78
    go_wp2_with fail
    refine (i_IsValidNetwork N _ _ _ l _ (H.out.below (by go_grown)) (by omega)).mono ?_
    rintro e w1 ⟨rfl, hb1⟩
    rw [HG.out]
    obtain ⟨hc_w1, hf_w1⟩ := bcell hb1
    have hz_w1_0 : w.heap.size < w1.heap.size := by have := hb1.size; simp only [World.size_alloc] at this; omega
    have HB1 := hid (bstep (by go_grown) hb1 : Below w.heap.size w w1)
    go_wp2_with fail
    refine (i_pipeIndex N x _ _ _ l _ (H.out.below HB1.out) hn).mono ?_
    rintro e w2 ⟨rfl, hb2⟩
    go_wp2
    go_ret
    exact ⟨rfl, bstep HB1.out hb2⟩

/-- What DownstreamNodes returns. -/
noncomputable def downR (N : Int) (l : List Pip) (s id : Int) : List Int × Bool := if (goodNet N l && inR s 1 N) = true ∧ 0 ≤ findQ l id ∧ treeB N l = true then (neg (distL N l id s) (N.toNat + 1), true) else ([], false)
theorem downR_no {N : Int} {l : List Pip} {s id : Int} (h : (goodNet N l && inR s 1 N) = false ∨ findQ l id = -1 ∨ treeB N l = false) : downR N l s id = ([], false) := by
  unfold downR
  rw [if_neg]
  rintro ⟨h1, h2, h3⟩
  rcases h with h | h | h
  · rw [h] at h1; cases h1
  · omega
  · rw [h] at h3; cases h3

theorem downR_len {N : Int} {l : List Pip} {s id : Int} {R : List Int} {b : Bool} (h : downR N l s id = (R, b)) : R.length ≤ 1000 := by
  unfold downR at h
  split at h
  · rename_i h1
    cases h
    have hN := (goodNet_get ((Bool.and_eq_true _ _).mp h1.1).1).1
    have := neg_len (distL N l id s) (N.toNat + 1)
    omega
  · cases h
    simp

set_option maxRecDepth 100000 in
set_option maxHeartbeats 2000000 in
theorem i_DownstreamNodes (N s id : Int) (a : Option Addr) (n c : Nat) (l : List Pip) (w : World) (h : QAt w a n l) (hn : n ≤ 1048576) (R : List Int) (b : Bool) (hR : downR N l s id = (R, b)) :
    Calls Try.prog 16 #[.agg #[.int .i64 N, .slice a n c], .int .i64 s, .int .i64 id] w fun e w' => ∃ a' c', e = .returned (.tuple #[.slice a' R.length c', .bool b]) ∧ OwnI w' w.heap.size (.slice a' R.length c') R ∧ Below w.heap.size w w' := by
  have H := hid h
  clear h
  cases h1 : goodNet N l && inR s 1 N
  · rw [downR_no (.inl h1)] at hR
    cases hR
    have H1 := hid h1
    clear h1
    go_enter Try.func16, Try.ntmps16
    go_wp2_with fail
    refine (i_hasNode _ s _ _ _ l _ (H.out.below (by go_grown)) hn).mono ?_
    rintro e w1 ⟨rfl, hb1⟩
    rw [H1.out]
    obtain ⟨hc_w1, hf_w1⟩ := bcell hb1
    have hz_w1_0 : w.heap.size < w1.heap.size := by have := hb1.size; simp only [World.size_alloc] at this; omega
    have HB1 := hid (bstep (by go_grown) hb1 : Below w.heap.size w w1)
    go_wp2
    go_ret2
    exact ⟨_, _, rfl, OwnI.nil _ _, HB1.out⟩
  · obtain ⟨hg, hs⟩ := (Bool.and_eq_true _ _).mp h1
    have hN := (goodNet_get hg).1
    obtain ⟨M, rfl⟩ : ∃ M : Nat, N = M := ⟨N.toNat, by omega⟩
    have H1 := hid h1
    have HG := hid hg
    have HS := hid (inR_iff.1 hs)
    have hM : M ≤ 8 := by omega
    clear h1 hs hN
    rcases findQ_cases l id with hf | ⟨k, hk, hf⟩
    · rw [downR_no (.inr (.inl hf))] at hR
      cases hR
      have H2 := hid (show (goodNet M l && decide (0 ≤ findQ l id)) = false by rw [hf]; simp)
      clear hf hg
      go_enter Try.func16, Try.ntmps16
      go_wp2_with fail
      refine (i_hasNode _ s _ _ _ l _ (H.out.below (by go_grown)) hn).mono ?_
      rintro e w1 ⟨rfl, hb1⟩
      rw [H1.out]
      obtain ⟨hc_w1, hf_w1⟩ := bcell hb1
      have hz_w1_0 : w.heap.size < w1.heap.size := by have := hb1.size; simp only [World.size_alloc] at this; omega
      have HB1 := hid (bstep (by go_grown) hb1 : Below w.heap.size w w1)
      go_wp2_with fail
      refine (i_hasPipe _ id _ _ _ l _ (H.out.below HB1.out) hn).mono ?_
      rintro e w2 ⟨rfl, hb2⟩
      rw [H2.out]
      obtain ⟨hc_w2, hf_w2⟩ := bcell hb2
      have hz_w2_0 : w.heap.size < w2.heap.size := by have := hb2.size; omega
      have HB2 := hid (bstep HB1.out hb2 : Below w.heap.size w w2)
      go_wp2
      go_ret2
      exact ⟨_, _, rfl, OwnI.nil _ _, HB2.out⟩
    · have H2 := hid (show (goodNet M l && decide (0 ≤ findQ l id)) = true by rw [hf, hg]; simp)
      cases h3 : treeB M l
      · rw [downR_no (.inr (.inr h3))] at hR
        cases hR
        have H3 := hid h3
        clear h3 hf hg hk
        go_enter Try.func16, Try.ntmps16
        go_wp2_with fail
        refine (i_hasNode _ s _ _ _ l _ (H.out.below (by go_grown)) hn).mono ?_
        rintro e w1 ⟨rfl, hb1⟩
        rw [H1.out]
        obtain ⟨hc_w1, hf_w1⟩ := bcell hb1
        have hz_w1_0 : w.heap.size < w1.heap.size := by have := hb1.size; simp only [World.size_alloc] at this; omega
        have HB1 := hid (bstep (by go_grown) hb1 : Below w.heap.size w w1)
        go_wp2_with fail
        refine (i_hasPipe _ id _ _ _ l _ (H.out.below HB1.out) hn).mono ?_
        rintro e w2 ⟨rfl, hb2⟩
        rw [H2.out]
        obtain ⟨hc_w2, hf_w2⟩ := bcell hb2
        have hz_w2_0 : w.heap.size < w2.heap.size := by have := hb2.size; omega
        have HB2 := hid (bstep HB1.out hb2 : Below w.heap.size w w2)
        go_wp2_with fail
        refine (i_isTree M _ _ _ l _ (H.out.below HB2.out) HG.out).mono ?_
        rintro e w3 ⟨rfl, hb3⟩
        rw [H3.out]
        obtain ⟨hc_w3, hf_w3⟩ := bcell hb3
        have hz_w3_0 : w.heap.size < w3.heap.size := by have := hb3.size; omega
        have HB3 := hid (bstep HB2.out hb3 : Below w.heap.size w w3)
        go_wp2
        go_ret2
        exact ⟨_, _, rfl, OwnI.nil _ _, HB3.out⟩
      · have e0 : downR M l s id = (neg (distL M l id s) (M + 1), true) := by
          unfold downR
          rw [if_pos ⟨H1.out, by omega, h3⟩]
          simp
        rw [e0] at hR
        cases hR
        obtain ⟨D, hD⟩ : ∃ D, distL M l id s = D := ⟨_, rfl⟩
        rw [hD]
        have HDD := hid hD
        have H3 := hid h3
        clear h3 hf hg hk hD e0
        go_enter Try.func16, Try.ntmps16
        go_wp2_with fail
        refine (i_hasNode _ s _ _ _ l _ (H.out.below (by go_grown)) hn).mono ?_
        rintro e w1 ⟨rfl, hb1⟩
        rw [H1.out]
        obtain ⟨hc_w1, hf_w1⟩ := bcell hb1
        have hz_w1_0 : w.heap.size < w1.heap.size := by have := hb1.size; simp only [World.size_alloc] at this; omega
        have HB1 := hid (bstep (by go_grown) hb1 : Below w.heap.size w w1)
        go_wp2_with fail
        refine (i_hasPipe _ id _ _ _ l _ (H.out.below HB1.out) hn).mono ?_
        rintro e w2 ⟨rfl, hb2⟩
        rw [H2.out]
        obtain ⟨hc_w2, hf_w2⟩ := bcell hb2
        have hz_w2_0 : w.heap.size < w2.heap.size := by have := hb2.size; omega
        have HB2 := hid (bstep HB1.out hb2 : Below w.heap.size w w2)
        go_wp2_with fail
        refine (i_isTree M _ _ _ l _ (H.out.below HB2.out) HG.out).mono ?_
        rintro e w3 ⟨rfl, hb3⟩
        rw [H3.out]
        obtain ⟨hc_w3, hf_w3⟩ := bcell hb3
        have hz_w3_0 : w.heap.size < w3.heap.size := by have := hb3.size; omega
        have HB3 := hid (bstep HB2.out hb3 : Below w.heap.size w w3)
        go_wp2_with fail
        refine (i_distances M s id _ _ _ l _ (H.out.below (bstep HB3.out (by go_grown))) HG.out HS.out).mono ?_
        rintro e w4 ⟨ad, cd, rfl, hod, hb4⟩
        obtain ⟨gd, rfl, hgd1, hgd2⟩ := own_some hod (by omega)
        simp only [World.size_alloc] at hgd1 hod
        rw [HDD.out] at hod
        have HD := hid hod
        have HB4 := hid (bstep HB3.out (bstep (by go_grown) hb4) : Below w.heap.size w w4)
        have HO := hid (show OwnI w4 w.heap.size (.slice (some ⟨w3.heap.size, 0, none⟩) (neg D 0).length 0) (neg D 0) from by
          have := ((OwnI.lit0 w3).below hb4).mono (B' := w.heap.size) HB3.out.size
          simpa [neg] using this)
        have hz4 := HB3.out.size
        clear hod hb4
        go_wp2
        go_loopg [8, 32] (M + 1) (fun g o i wr => ∃ (k : Nat) (a' : Option Addr) (c' : Nat), k ≤ M + 1 ∧ g = M + 1 - k ∧ i = .int .i64 k ∧ o = .slice a' (neg D k).length c' ∧ Hid (OwnI wr w.heap.size (.slice a' (neg D k).length c') (neg D k) ∧ OwnI wr w.heap.size (.slice (some ⟨gd, 0, none⟩) (M + 1) cd) D ∧ Below w.heap.size w wr ∧ Value.ownBlock (.slice a' (neg D k).length c') ≠ some gd))
        case atStart =>
          refine ⟨0, some ⟨w3.heap.size, 0, none⟩, 0, Nat.zero_le _, rfl, rfl, rfl, hid ⟨HO.out, HD.out.mono (by omega), HB4.out, ?_⟩⟩
          simp [Value.ownBlock]
          omega
        case round =>
          obtain ⟨k, a', c', hk, rfl, rfl, rfl, hh⟩ := hrel
          have hlen := neg_len D k
          by_cases hlt : k < M + 1
          · have hcell := hh.out.2.1.cell (k := k) hlt
            have hgw : gd < wr.heap.size := (hh.out.2.1.lt _ rfl).2
            by_cases h0 : 0 < k
            · by_cases hp : D[k]?.getD 0 < 0
              · have E := hid (neg_yes h0 hp)
                go_wp2_with (at_builtin; refine wp_append_ints _ rfl _ _ rfl w.heap.size _ (neg D k) rfl (hh.out.1.alloc _) _ 1 1 [(k : Int)] rfl (IntsAt.single _ _) ((neg D k).length + 1) (by simp) (by omega) (by have := hh.out.2.2.1.size; simp; omega) ?_)
                intro a2 c2 w5 hown hgrow hblk
                have hl2 : (neg D k).length + 1 = (neg D (k + 1)).length := by rw [E.out]; simp
                rw [hl2] at hown hblk ⊢
                have S2 := hid (show OwnI w5 w.heap.size (.slice a2 (neg D (k + 1)).length c2) (neg D (k + 1)) ∧ OwnI w5 w.heap.size (.slice (some ⟨gd, 0, none⟩) (M + 1) cd) D ∧ Below w.heap.size w w5 ∧ Value.ownBlock (.slice a2 (neg D (k + 1)).length c2) ≠ some gd from by
                  refine ⟨by rw [E.out] at hown ⊢; exact hown, (hh.out.2.1.alloc _).kept hgrow (.inr (fun e => hh.out.2.2.2 (by rw [← e]; rfl))), (bstep hh.out.2.2.1 (by go_grown)).grown hgrow (by have := hh.out.2.2.1.size; simp; omega) (fun q hq => (hh.out.1.lt q hq).1), ?_⟩
                  rcases hblk with e | e
                  · rw [e]; exact hh.out.2.2.2
                  · rw [e]; simp; omega)
                clear hown hgrow hblk hl2
                go_wp2
                go_roundg (M + 1 - (k + 1))
                case rel => exact ⟨k + 1, _, _, by omega, rfl, by go_num, rfl, S2⟩
                case measure => omega
              · have E := hid (neg_no (L := D) (k := k) (fun h => hp h.2))
                go_wp2
                go_roundg (M + 1 - (k + 1))
                case rel => exact ⟨k + 1, a', c', by omega, rfl, by go_num, by rw [E.out], hid (by rw [E.out]; exact hh.out)⟩
                case measure => omega
            · have E := hid (neg_no (L := D) (k := k) (fun h => h0 h.1))
              go_wp2
              go_roundg (M + 1 - (k + 1))
              case rel => exact ⟨k + 1, a', c', by omega, rfl, by go_num, by rw [E.out], hid (by rw [E.out]; exact hh.out)⟩
              case measure => omega
          · obtain rfl : k = M + 1 := by omega
            go_wp2
            go_ret2
            exact ⟨_, _, rfl, hh.out.1, hh.out.2.2.1⟩


end Go.Proofs.Ytlnhikhpkcgegaa

/-
  Networks: ImbalanceAt.
-/
set_option linter.unusedVariables false
set_option linter.unusedSimpArgs false
namespace Go.Proofs.Ytlnhikhpkcgegaa
open Go.RowKit

/-- What ImbalanceAt returns. -/
def imbR (N : Int) (l : List Pip) (s : Int) (ds fs : List Int) (x : Int) : Int × Bool := if asks N l s ds fs = true ∧ inR x 1 N = true then (imb l ds fs s x, true) else (0, false)

set_option maxHeartbeats 1000000 in
theorem i_ImbalanceAt (N s x : Int) (a p q : Option Addr) (n c m d r e0 : Nat) (l : List Pip) (ds fs : List Int) (w : World) (h : QAt w a n l) (h' : IntsAt w p m ds) (h'' : IntsAt w q r fs) (hn : n ≤ 1048576) (hm : m ≤ 1048576) (hr : r ≤ 1048576) (y : Int) (z : Bool) (hR : imbR N l s ds fs x = (y, z)) :
    Calls Try.prog 20 #[.agg #[.int .i64 N, .slice a n c], .int .i64 s, .slice p m d, .slice q r e0, .int .i64 x] w fun e w' => e = .returned (.tuple #[.int .i64 y, .bool z]) ∧ Below w.heap.size w w' := by
  have hl := h.1
  have H := hid h
  have H' := hid h'
  have H'' := hid h''
  clear h h' h''
  cases h1 : asks N l s ds fs
  · have H1 := hid h1
    have e1 : imbR N l s ds fs x = (0, false) := by simp [imbR, h1]
    rw [e1] at hR
    cases hR
    clear h1 hl e1
    go_enter Try.func20, Try.ntmps20
    go_wp2_with fail
    refine (i_canFlow N s _ _ _ _ _ _ _ _ _ l ds fs _ (H.out.below (by go_grown)) (H'.out.below (by go_grown)) (H''.out.below (by go_grown)) hn hm (by omega)).mono ?_
    rintro e w1 ⟨rfl, hb1⟩
    rw [H1.out]
    obtain ⟨hc_w1, hf_w1⟩ := bcell hb1
    have hz_w1_0 : w.heap.size < w1.heap.size := by have := hb1.size; simp only [World.size_alloc] at this; omega
    have HB1 := hid (bstep (by go_grown) hb1 : Below w.heap.size w w1)
    go_wp2
    go_ret2
    exact ⟨rfl, HB1.out⟩
  · have H1 := hid h1
    obtain ⟨g1, g2, g3, g4⟩ := asks_iff h1
    rw [hl] at g4
    have hrn : r = n := by have := (goodFl_iff.1 g4).1; have := H''.out.1; omega
    subst hrn
    have G1 := hid g1
    have G3 := hid g3
    have G4 := hid g4
    cases h2 : inR x 1 N
    · have H2 : Hid ((goodNet N l && inR x 1 N) = false) := hid (by simp [h2])
      have H3 := hid h2
      have e1 : imbR N l s ds fs x = (0, false) := by simp [imbR, h2]
      rw [e1] at hR
      cases hR
      clear h1 h2 hl e1 g1 g2 g3 g4
      go_enter Try.func20, Try.ntmps20
      go_wp2_with fail
      refine (i_canFlow N s _ _ _ _ _ _ _ _ _ l ds fs _ (H.out.below (by go_grown)) (H'.out.below (by go_grown)) (H''.out.below (by go_grown)) hn hm (by omega)).mono ?_
      rintro e w1 ⟨rfl, hb1⟩
      rw [H1.out]
      obtain ⟨hc_w1, hf_w1⟩ := bcell hb1
      have hz_w1_0 : w.heap.size < w1.heap.size := by have := hb1.size; simp only [World.size_alloc] at this; omega
      have HB1 := hid (bstep (by go_grown) hb1 : Below w.heap.size w w1)
      go_wp2_with fail
      refine (i_has N x _ _ _ _).mono ?_
      rintro e w2 ⟨rfl, hb2⟩
      rw [H3.out]
      go_wp2
      go_ret2
      exact ⟨rfl, bstep HB1.out hb2⟩
    · have H2 : Hid ((goodNet N l && inR x 1 N) = true) := hid (by simp [h2, g1])
      have H3 := hid h2
      have hx := inR_iff.1 h2
      have e1 : imbR N l s ds fs x = (imb l ds fs s x, true) := by simp [imbR, h1, h2]
      rw [e1] at hR
      cases hR
      clear h1 h2 hl e1 g1 g2 g3 g4
      go_enter Try.func20, Try.ntmps20
      go_wp2_with fail
      refine (i_canFlow N s _ _ _ _ _ _ _ _ _ l ds fs _ (H.out.below (by go_grown)) (H'.out.below (by go_grown)) (H''.out.below (by go_grown)) hn hm (by omega)).mono ?_
      rintro e w1 ⟨rfl, hb1⟩
      rw [H1.out]
      obtain ⟨hc_w1, hf_w1⟩ := bcell hb1
      have hz_w1_0 : w.heap.size < w1.heap.size := by have := hb1.size; simp only [World.size_alloc] at this; omega
      have HB1 := hid (bstep (by go_grown) hb1 : Below w.heap.size w w1)
      go_wp2_with fail
      refine (i_has N x _ _ _ _).mono ?_
      rintro e w2 ⟨rfl, hb2⟩
      rw [H3.out]
      obtain ⟨hc_w2, hf_w2⟩ := bcell hb2
      have hz_w2_0 : w.heap.size < w2.heap.size := by have := hb2.size; omega
      have HB2 := hid (bstep HB1.out hb2)
      go_wp2_with fail
      refine (i_imbalanceAt N s x _ _ _ _ _ _ _ _ l ds fs _ (H.out.below HB2.out) (H'.out.below HB2.out) (H''.out.below HB2.out) G1.out G3.out G4.out hx).mono ?_
      rintro e w3 ⟨rfl, hb3⟩
      go_wp2
      go_ret2
      exact ⟨rfl, bstep HB2.out hb3⟩

end Go.Proofs.Ytlnhikhpkcgegaa

/-
  What the answers on flows, balances, supplies and downstream nodes say of one another (plain).
-/
set_option linter.unusedVariables false
set_option linter.unusedSimpArgs false
namespace Go.Proofs.Ytlnhikhpkcgegaa
open Go.RowKit

/-- What the first nodes of a list take. -/
def psum (ds D : List Int) (k : Nat) : Int := ((D.take k).map fun d => ds[d.toNat - 1]?.getD 0).sum
theorem psum_zero (ds D : List Int) : psum ds D 0 = 0 := by simp [psum]
theorem psum_succ {ds D : List Int} {k : Nat} (hk : k < D.length) : psum ds D (k + 1) = psum ds D k + ds[(D[k]?.getD 0).toNat - 1]?.getD 0 := by
  unfold psum
  rw [take_succ' D k hk]
  simp
theorem psum_app (ds D : List Int) (x : Int) : psum ds (D ++ [x]) (D.length + 1) = psum ds D D.length + ds[x.toNat - 1]?.getD 0 := by
  unfold psum
  rw [List.take_of_length_le (by simp), List.take_of_length_le (Nat.le_refl _)]
  simp
theorem psum_fit {ds D : List Int} (h : ∀ x ∈ ds, 0 ≤ x ∧ x ≤ 1000) : ∀ k, k ≤ D.length → 0 ≤ psum ds D k ∧ psum ds D k ≤ 1000 * (k : Int)
  | 0, _ => by rw [psum_zero]; omega
  | k + 1, hk => by
    have ih := psum_fit (D := D) h k (by omega)
    rw [psum_succ (by omega)]
    by_cases hl : (D[k]?.getD 0).toNat - 1 < ds.length
    · have := h _ (getD_mem' hl)
      omega
    · rw [List.getElem?_eq_none (by omega), Option.getD_none]
      omega
theorem mem_neg2 {L : List Int} {x : Int} {m : Nat} : x ∈ neg L m ↔ ∃ v : Nat, v < m ∧ 0 < v ∧ L[v]?.getD 0 < 0 ∧ x = v := by
  unfold neg
  simp only [List.mem_map, List.mem_filter, List.mem_range, Bool.and_eq_true, decide_eq_true_eq]
  constructor
  · rintro ⟨v, ⟨h1, h2, h3⟩, rfl⟩
    exact ⟨v, h1, h2, h3, rfl⟩
  · rintro ⟨v, h1, h2, h3, rfl⟩
    exact ⟨v, ⟨h1, h2, h3⟩, rfl⟩
theorem psum_neg (L ds : List Int) : ∀ m, psum ds (neg L (m + 1)) (neg L (m + 1)).length = dsum L ds m
  | 0 => by rw [neg_one]; simp [psum, dsum]
  | m + 1 => by
    by_cases h : L[m + 1]?.getD 0 < 0
    · rw [neg_yes (by omega) h, List.length_append, List.length_singleton, psum_app, psum_neg L ds m, dsum_yes h]
      rw [show (((m + 1 : Nat) : Int)).toNat - 1 = m by omega]
    · rw [neg_no (fun h2 => h h2.2), psum_neg L ds m, dsum_no h]
theorem dsum_sum {D ds : List Int} (h : ∀ x ∈ ds, 0 ≤ x ∧ x ≤ 1000) : ∀ k, k ≤ ds.length → dsum D ds k ≤ (ds.take k).sum
  | 0, _ => by simp [dsum]
  | k + 1, hk => by
    have ih := dsum_sum (D := D) h k (by omega)
    have hx := h _ (getD_mem' (l := ds) (k := k) (by omega))
    rw [sum_take_succ ds k (by omega)]
    by_cases c : D[k + 1]?.getD 0 < 0
    · rw [dsum_yes c]; omega
    · rw [dsum_no c]; omega
/-- The answers on the flows of a tree. -/
theorem trees_yes {N s : Int} {l : List Pip} {ds fs : List Int} (h : treesR N l s ds = (fs, true)) :
    balR N l s ds fs = (true, true) ∧ supply N l ds = (ds.sum, true) ∧ treeR N l = (true, true) ∧ fs.length = l.length ∧ goodNet N l = true ∧ ((ds.length : Int) = N ∧ ∀ x ∈ ds, 0 ≤ x ∧ x ≤ 1000) ∧
      ∀ k, k < l.length → ∃ D, downR N l s (pp l k).1 = (D, true) ∧ (∀ j, j < D.length → 1 ≤ D[j]?.getD 0 ∧ D[j]?.getD 0 ≤ N) ∧ D.length ≤ 9 ∧ psum ds D D.length ≤ ds.sum ∧ (-8000 ≤ fs[k]?.getD 0 ∧ fs[k]?.getD 0 ≤ 8000) ∧
        ((pp l k).2.1 ∈ D → -(fs[k]?.getD 0) = psum ds D D.length) ∧ ((pp l k).2.1 ∉ D → fs[k]?.getD 0 = psum ds D D.length) := by
  unfold treesR at h
  split at h
  · rename_i h1
    obtain ⟨hg, hs, hd, ht⟩ := canT_iff h1
    have hN := (goodNet_get hg).1
    obtain ⟨M, rfl⟩ : ∃ M : Nat, N = M := ⟨N.toNat, by omega⟩
    simp only [Int.toNat_natCast] at h
    simp only [Prod.mk.injEq, and_true] at h
    subst h
    have hfs := tflows_good (M := M) (n := l.length) (l := l) (s := s) (by omega) (by omega) hd.2
    have hdm : goodDem M ds = true := goodDem_iff.2 hd
    have hask : asks M l s ds (tflows M l s ds l.length) = true := by
      unfold asks
      rw [hg, inR_iff.2 hs, hdm, hfs]
      rfl
    refine ⟨?_, ?_, ?_, by rw [tflows_len], hg, hd, fun k hk => ?_⟩
    · unfold balR
      rw [if_pos hask, Int.toNat_natCast, tree_bal hg ht hs (by omega)]
    · unfold supply
      rw [if_pos ⟨hg, hdm⟩]
    · unfold treeR
      rw [if_pos hg, ht]
    · obtain ⟨-, p1, p2, -, -⟩ := goodNet_pipe hg hk
      have hlen := neg_len (distL M l (pp l k).1 s) (M + 1)
      have hb := tree_bridge hg ht hs hk
      have hfr : (distL M l (pp l k).1 s)[(pp l k).2.1.toNat]?.getD 0 = far l (pp l k).1 s (pp l k).2.1 := by
        rw [distL_at (by omega) (by omega), show (((pp l k).2.1.toNat : Nat) : Int) = (pp l k).2.1 by omega]
      have hto : (distL M l (pp l k).1 s)[(pp l k).2.2.1.toNat]?.getD 0 = far l (pp l k).1 s (pp l k).2.2.1 := by
        rw [distL_at (by omega) (by omega), show (((pp l k).2.2.1.toNat : Nat) : Int) = (pp l k).2.2.1 by omega]
      have hmem : (pp l k).2.1 ∈ neg (distL M l (pp l k).1 s) (M + 1) ↔ far l (pp l k).1 s (pp l k).2.1 < 0 := by
        rw [mem_neg2, ← hfr]
        constructor
        · rintro ⟨v, -, -, h3, h4⟩
          rw [h4, Int.toNat_natCast]
          exact h3
        · intro h3
          exact ⟨(pp l k).2.1.toNat, by omega, by omega, h3, by omega⟩
      refine ⟨neg (distL M l (pp l k).1 s) (M + 1), ?_, fun j hj => ?_, by omega, ?_, ?_, fun hin => ?_, fun hin => ?_⟩
      · unfold downR
        rw [if_pos ⟨by rw [hg, inR_iff.2 hs]; rfl, by rw [findQ_at hg hk]; omega, ht⟩, Int.toNat_natCast]
      · obtain ⟨v, h1, h2, -, h4⟩ := mem_neg2.1 (getD_mem' hj)
        omega
      · rw [psum_neg]
        have := dsum_sum (D := distL M l (pp l k).1 s) hd.2 M (by omega)
        rw [List.take_of_length_le (by omega)] at this
        exact this
      · exact (goodFl_iff.1 hfs).2 _ (getD_mem' (by rw [tflows_len]; exact hk))
      · have h3 := hmem.1 hin
        rw [psum_neg, tflows_get hk, tflow_wet (by rw [hto]; intro h4; exact absurd (hb.2 (by omega)) (by omega))]
        omega
      · have h3 : 0 ≤ far l (pp l k).1 s (pp l k).2.1 := by
          apply Classical.byContradiction
          intro h4
          exact hin (hmem.2 (by omega))
        rw [psum_neg, tflows_get hk, tflow_dry (by rw [hto]; have := hb.1 h3; omega)]
  · cases h

theorem bal_succ (l : List Pip) (ds fs : List Int) (s : Int) (k : Nat) : bal l ds fs s (k + 1) = (bal l ds fs s k && decide (imb l ds fs s ((k : Int) + 1) = 0)) := by
  unfold bal
  rw [List.range_succ, List.all_append]
  simp
/-- The answers on a balance. -/
theorem bal_parts {N s : Int} {l : List Pip} {ds fs : List Int} {y : Bool} (h : balR N l s ds fs = (y, true)) :
    (1 ≤ N ∧ N ≤ 8) ∧ bal l ds fs s N.toNat = y ∧ sm (fun i => imb l ds fs s ((i : Int) + 1)) N.toNat = 0 ∧
      ∀ k : Nat, k < N.toNat → imbR N l s ds fs ((k : Int) + 1) = (imb l ds fs s ((k : Int) + 1), true) ∧ (-90000 ≤ imb l ds fs s ((k : Int) + 1) ∧ imb l ds fs s ((k : Int) + 1) ≤ 90000) := by
  unfold balR at h
  split at h
  · rename_i h1
    have ha := h1
    unfold asks at ha
    simp only [Bool.and_eq_true] at ha
    obtain ⟨⟨⟨hg, hs⟩, hd⟩, hf⟩ := ha
    have hs := inR_iff.1 hs
    have hN := (goodNet_get hg).1
    have hd2 := goodDem_iff.1 hd
    simp only [Prod.mk.injEq, and_true] at h
    obtain ⟨M, rfl⟩ : ∃ M : Nat, N = M := ⟨N.toNat, by omega⟩
    rw [Int.toNat_natCast] at h ⊢
    refine ⟨hN, h, imb_all hg hs (by omega), fun k hk => ⟨?_, ?_⟩⟩
    · unfold imbR
      rw [if_pos ⟨h1, inR_iff.2 (by omega)⟩]
    · have h2 := net_fit (l := l) (x := (k : Int) + 1) hf l.length (by have := (goodFl_iff.1 hf).1; omega)
      have h3 := (goodNet_get hg).2.1
      have h4 := hd2.2 _ (getD_mem' (l := ds) (k := ((k : Int) + 1).toNat - 1) (by omega))
      have h5 := sum_fit (B := 1000) (by omega) hd2.2
      unfold imb own
      split <;> omega
  · cases h
theorem sm_fit {f : Nat → Int} {n : Nat} (h : ∀ k, k < n → -90000 ≤ f k ∧ f k ≤ 90000) : ∀ k, k ≤ n → -(90000 * (k : Int)) ≤ sm f k ∧ sm f k ≤ 90000 * (k : Int)
  | 0, _ => by simp [sm]
  | k + 1, hk => by
    have := sm_fit h k (by omega)
    have := h k (by omega)
    simp only [sm]
    omega

end Go.Proofs.Ytlnhikhpkcgegaa

/-
  Whether a list has a number: the laws' own helper.
-/
set_option linter.unusedVariables false
set_option linter.unusedSimpArgs false
namespace Go.Proofs.Ytlnhikhpkcgegaa
open Go.RowKit

theorem l_vHas (a : Option Addr) (n c : Nat) (x : Int) (l : List Int) (w : World) (h : IntsAt w a n l) (hn : n ≤ 1048576) :
    Calls Try.prog 17 #[.slice a n c, .int .i64 x] w fun e w' => e = .returned (.bool (decide (x ∈ l))) ∧ w = w' := by
  have H := hid h
  have HL := hid h.1
  clear h
  go_enter Try.func17, Try.ntmps17
  go_wp2
  go_loopg [5] n (fun g i wr => ∃ k : Nat, k ≤ n ∧ g = n - k ∧ i = .int .i64 k ∧ w = wr ∧ Hid (∀ j, j < k → l[j]?.getD 0 ≠ x))
  case atStart => exact ⟨0, Nat.zero_le _, rfl, rfl, rfl, hid (fun j hj => absurd hj (by omega))⟩
  case round =>
    obtain ⟨k, hk, rfl, rfl, rfl, hh⟩ := hrel
    by_cases hlt : k < n
    · obtain ⟨b, off, rfl, hbw, hcell⟩ := H.out.2 k hlt
      by_cases he : l[k]?.getD 0 = x
      · have E := hid (show true = decide (x ∈ l) by
          have : x ∈ l := he ▸ getD_mem' (k := k) (by have := HL.out; omega)
          simp [this])
        have ha : l[k]?.getD 0 ≤ x := by omega
        have hb : x ≤ l[k]?.getD 0 := by omega
        clear he
        go_wp2
        go_ret
        exact ⟨ret_bool E.out, rfl⟩
      · go_wp2
        go_roundg (n - (k + 1))
        case rel =>
          refine ⟨k + 1, by omega, rfl, by go_num, rfl, hid (fun j hj => ?_)⟩
          by_cases e : j = k
          · subst e; exact he
          · exact hh.out j (by omega)
        case measure => omega
    · obtain rfl : n = k := by omega
      have E := hid (show false = decide (x ∈ l) by
        have : x ∉ l := fun hm => by
          obtain ⟨j, hj, rfl⟩ := List.mem_iff_getElem.1 hm
          exact hh.out j (by have := HL.out; omega) (by simp [hj])
        simp [this])
      go_wp2
      go_ret
      exact ⟨ret_bool E.out, rfl⟩

theorem l_vHas_is (a : Option Addr) (n c : Nat) (x : Int) (l : List Int) (w : World) (h : IntsAt w a n l) (hn : n ≤ 1048576) (b : Bool) (hb : decide (x ∈ l) = b) :
    Calls Try.prog 17 #[.slice a n c, .int .i64 x] w fun e w' => e = .returned (.bool b) ∧ w = w' := by
  subst hb
  exact l_vHas a n c x l w h hn

end Go.Proofs.Ytlnhikhpkcgegaa

