/-
  PressuresOf, in the program and in the reference.
-/
import Derived.Test.YthhogblnndmenaaPress
set_option linter.unusedVariables false
set_option linter.unusedSimpArgs false
namespace Go.Proofs.Ythhogblnndmenaa
open Go.RowKit

/-- What PressuresOf returns. -/
noncomputable def pressR (N : Int) (l : List Pip) (s : Int) (ds : List Int) (hd : Int) (hs : List Int) : List Int × Bool := if (canT N l s ds && inR hd 0 100000000000) = true ∧ goodHt N hs = true then (prs (headL l (tflows N.toNat l s ds l.length) s hd N.toNat) hs N.toNat, true) else ([], false)
theorem pressR_len {N : Int} {l : List Pip} {s : Int} {ds hs : List Int} {hd : Int} {R : List Int} {b : Bool} (h : pressR N l s ds hd hs = (R, b)) : R.length ≤ 1000 := by
  unfold pressR at h
  split at h
  · rename_i h1
    cases h
    rw [prs_len, headL_len]
    have := (goodNet_get (canT_iff ((Bool.and_eq_true _ _).mp h1.1).1).1).1
    omega
  · cases h
    simp

set_option maxRecDepth 100000 in
set_option maxHeartbeats 2000000 in
theorem i_PressuresOf (N s hd : Int) (a p q : Option Addr) (n c m d r e0 : Nat) (l : List Pip) (ds hs0 : List Int) (w : World) (h : QAt w a n l) (h' : IntsAt w p m ds) (h'' : IntsAt w q r hs0) (hn : n ≤ 1048576) (hm : m ≤ 1048576) (hr : r ≤ 1048576) (R : List Int) (b : Bool) (hR : pressR N l s ds hd hs0 = (R, b)) :
    Calls Try.prog 40 #[.agg #[.int .i64 N, .slice a n c], .int .i64 s, .slice p m d, .int .i64 hd, .slice q r e0] w fun e w' => ∃ a' c', e = .returned (.tuple #[.slice a' R.length c', .bool b]) ∧ OwnI w' w.heap.size (.slice a' R.length c') R ∧ Below w.heap.size w w' := by
  have hl := h.1
  have hl' := h'.1
  have hl'' := h''.1
  have H := hid h
  have H' := hid h'
  have H'' := hid h''
  clear h h' h''
  cases h1 : canT N l s ds
  · have e0 : pressR N l s ds hd hs0 = ([], false) := by simp [pressR, h1]
    rw [e0] at hR
    cases hR
    have H1 := hid h1
    clear h1 hl hl' hl''
    go_enter Try.func40, Try.ntmps40
    go_wp2_with fail
    refine (i_canTree _ _ _ _ _ _ _ _ l ds _ (H.out.below (by go_grown)) (H'.out.below (by go_grown)) hn hm).mono ?_
    rintro e w1 ⟨rfl, hb1⟩
    rw [H1.out]
    obtain ⟨hc_w1, hf_w1⟩ := bcell hb1
    have hz_w1_0 : w.heap.size < w1.heap.size := by have := hb1.size; simp only [World.size_alloc] at this; omega
    have HB1 := hid (bstep (by go_grown) hb1 : Below w.heap.size w w1)
    go_wp2
    go_ret2
    exact ⟨_, _, rfl, OwnI.nil _ _, HB1.out⟩
  · have H1 := hid h1
    cases h2 : inR hd 0 100000000000
    · have e0 : pressR N l s ds hd hs0 = ([], false) := by simp [pressR, h2]
      rw [e0] at hR
      cases hR
      have H2 := hid h2
      clear h1 h2 hl hl' hl''
      go_enter Try.func40, Try.ntmps40
      go_wp2_with fail
      refine (i_canTree _ _ _ _ _ _ _ _ l ds _ (H.out.below (by go_grown)) (H'.out.below (by go_grown)) hn hm).mono ?_
      rintro e w1 ⟨rfl, hb1⟩
      rw [H1.out]
      obtain ⟨hc_w1, hf_w1⟩ := bcell hb1
      have hz_w1_0 : w.heap.size < w1.heap.size := by have := hb1.size; simp only [World.size_alloc] at this; omega
      have HB1 := hid (bstep (by go_grown) hb1 : Below w.heap.size w w1)
      go_wp2_with fail
      refine (i_isHead _ _).mono ?_
      rintro e _ ⟨rfl, rfl⟩
      rw [H2.out]
      go_wp2
      go_ret2
      exact ⟨_, _, rfl, OwnI.nil _ _, HB1.out⟩
    · have H2 := hid h2
      cases h3 : goodHt N hs0
      · have e0 : pressR N l s ds hd hs0 = ([], false) := by simp [pressR, h3]
        rw [e0] at hR
        cases hR
        have H3 := hid h3
        clear h1 h2 h3 hl hl' hl''
        go_enter Try.func40, Try.ntmps40
        go_wp2_with fail
        refine (i_canTree _ _ _ _ _ _ _ _ l ds _ (H.out.below (by go_grown)) (H'.out.below (by go_grown)) hn hm).mono ?_
        rintro e w1 ⟨rfl, hb1⟩
        rw [H1.out]
        obtain ⟨hc_w1, hf_w1⟩ := bcell hb1
        have hz_w1_0 : w.heap.size < w1.heap.size := by have := hb1.size; simp only [World.size_alloc] at this; omega
        have HB1 := hid (bstep (by go_grown) hb1 : Below w.heap.size w w1)
        go_wp2_with fail
        refine (i_isHead _ _).mono ?_
        rintro e _ ⟨rfl, rfl⟩
        rw [H2.out]
        go_wp2_with fail
        refine (i_areHeights _ _ _ _ _ _ _ hs0 _ (H''.out.below HB1.out) hr).mono ?_
        rintro e w2 ⟨rfl, hb2⟩
        rw [H3.out]
        obtain ⟨hc_w2, hf_w2⟩ := bcell hb2
        have hz_w2_0 : w.heap.size < w2.heap.size := by have := hb2.size; omega
        have HB2 := hid (bstep HB1.out hb2 : Below w.heap.size w w2)
        go_wp2
        go_ret2
        exact ⟨_, _, rfl, OwnI.nil _ _, HB2.out⟩
      · have H3 := hid h3
        obtain ⟨g1, g2, g3, g4⟩ := canT_iff h1
        have g5 := goodHt_iff.1 h3
        have hN := (goodNet_get g1).1
        obtain ⟨M, rfl⟩ : ∃ M : Nat, N = M := ⟨N.toNat, by omega⟩
        have hmM : m = M := by omega
        subst hmM
        have hrM : r = m := by omega
        subst hrM
        obtain ⟨s0, rfl⟩ : ∃ s0 : Nat, s = s0 := ⟨s.toNat, by omega⟩
        have e0 : pressR r l s0 ds hd hs0 = (prs (headL l (tflows r l s0 ds n) s0 hd r) hs0 r, true) := by
          unfold pressR
          rw [if_pos ⟨by simp [h1, h2], h3⟩, hl]
          simp
        rw [e0] at hR
        cases hR
        rw [prs_len, headL_len]
        have HG := hid g1
        have HS := hid (show 1 ≤ s0 ∧ s0 ≤ r by omega)
        have HD := hid g3.2
        have HT := hid g4
        have HH := hid (inR_iff.1 h2)
        have HHT := hid g5.2
        clear h1 h2 h3 hl hl' hl'' e0 g1 g2 g3 g4 g5
        go_enter Try.func40, Try.ntmps40
        go_wp2_with fail
        refine (i_canTree _ _ _ _ _ _ _ _ l ds _ (H.out.below (by go_grown)) (H'.out.below (by go_grown)) hn hm).mono ?_
        rintro e w1 ⟨rfl, hb1⟩
        rw [H1.out]
        obtain ⟨hc_w1, hf_w1⟩ := bcell hb1
        have hz_w1_0 : w.heap.size < w1.heap.size := by have := hb1.size; simp only [World.size_alloc] at this; omega
        have HB1 := hid (bstep (by go_grown) hb1 : Below w.heap.size w w1)
        go_wp2_with fail
        refine (i_isHead _ _).mono ?_
        rintro e _ ⟨rfl, rfl⟩
        rw [H2.out]
        go_wp2_with fail
        refine (i_areHeights _ _ _ _ _ _ _ hs0 _ (H''.out.below HB1.out) hr).mono ?_
        rintro e w2 ⟨rfl, hb2⟩
        rw [H3.out]
        obtain ⟨hc_w2, hf_w2⟩ := bcell hb2
        have hz_w2_0 : w.heap.size < w2.heap.size := by have := hb2.size; omega
        have HB2 := hid (bstep HB1.out hb2 : Below w.heap.size w w2)
        go_wp2_with fail
        refine (i_pressuresOf r s0 hd _ _ _ n _ _ _ l ds hs0 _ (H.out.below HB2.out) (H'.out.below HB2.out) (H''.out.below HB2.out) HG.out HS.out HD.out HT.out HH.out HHT.out).mono ?_
        rintro e w3 ⟨a3, c3, rfl, ho3, hb3⟩
        have HO := hid ho3
        have HB3 := hid (bstep HB2.out hb3)
        clear ho3 hb3
        go_wp2
        go_ret2
        exact ⟨_, _, rfl, HO.out.mono HB2.out.size, HB3.out⟩

set_option maxRecDepth 100000 in
set_option maxHeartbeats 2000000 in
theorem s_PressuresOf (N s hd : Int) (a p q : Option Addr) (n c m d r e0 : Nat) (l : List Pip) (ds hs0 : List Int) (w : World) (h : QAt w a n l) (h' : IntsAt w p m ds) (h'' : IntsAt w q r hs0) (hn : n ≤ 1048576) (hm : m ≤ 1048576) (hr : r ≤ 1048576) (hc : n ≤ c) (R : List Int) (b : Bool) (hR : pressR N l s ds hd hs0 = (R, b)) :
    Calls Try.prog 39 #[.agg #[.int .i64 N, .slice a n c], .int .i64 s, .slice p m d, .int .i64 hd, .slice q r e0] w fun e w' => ∃ a' c', e = .returned (.tuple #[.slice a' R.length c', .bool b]) ∧ OwnI w' w.heap.size (.slice a' R.length c') R ∧ Below w.heap.size w w' := by
  have hl := h.1
  have hl' := h'.1
  have hl'' := h''.1
  have H := hid h
  have H' := hid h'
  have H'' := hid h''
  clear h h' h''
  cases h0 : canT N l s ds && inR hd 0 100000000000
  · have e0 : pressR N l s ds hd hs0 = ([], false) := by simp [pressR, h0]
    rw [e0] at hR
    cases hR
    have H0 := hid h0
    clear h0 hl hl' hl''
    go_enter Try.func39, Try.ntmps39
    go_wp2_with fail
    refine (s_l9Asked _ _ _ _ _ _ _ _ _ l ds _ (H.out.below (by go_grown)) (H'.out.below (by go_grown)) hn hm).mono ?_
    rintro e w1 ⟨rfl, hb1⟩
    rw [H0.out]
    obtain ⟨hc_w1, hf_w1⟩ := bcell hb1
    have hz_w1_0 : w.heap.size < w1.heap.size := by have := hb1.size; simp only [World.size_alloc] at this; omega
    have HB1 := hid (bstep (by go_grown) hb1 : Below w.heap.size w w1)
    go_wp2
    go_ret2
    exact ⟨_, _, rfl, (OwnI.lit0 _).mono HB1.out.size, bstep HB1.out (by go_grown)⟩
  · have H0 := hid h0
    obtain ⟨h1, h2⟩ := (Bool.and_eq_true _ _).mp h0
    cases h3 : goodHt N hs0
    · have e0 : pressR N l s ds hd hs0 = ([], false) := by simp [pressR, h3]
      rw [e0] at hR
      cases hR
      have H3 := hid h3
      clear h0 h1 h2 h3 hl hl' hl''
      go_enter Try.func39, Try.ntmps39
      go_wp2_with fail
      refine (s_l9Asked _ _ _ _ _ _ _ _ _ l ds _ (H.out.below (by go_grown)) (H'.out.below (by go_grown)) hn hm).mono ?_
      rintro e w1 ⟨rfl, hb1⟩
      rw [H0.out]
      obtain ⟨hc_w1, hf_w1⟩ := bcell hb1
      have hz_w1_0 : w.heap.size < w1.heap.size := by have := hb1.size; simp only [World.size_alloc] at this; omega
      have HB1 := hid (bstep (by go_grown) hb1 : Below w.heap.size w w1)
      go_wp2_with fail
      refine (s_l9Heights _ _ _ _ _ _ _ hs0 _ (H''.out.below HB1.out) hr).mono ?_
      rintro e w2 ⟨rfl, hb2⟩
      rw [H3.out]
      obtain ⟨hc_w2, hf_w2⟩ := bcell hb2
      have hz_w2_0 : w.heap.size < w2.heap.size := by have := hb2.size; omega
      have HB2 := hid (bstep HB1.out hb2 : Below w.heap.size w w2)
      go_wp2
      go_ret2
      exact ⟨_, _, rfl, (OwnI.lit0 _).mono HB2.out.size, bstep HB2.out (by go_grown)⟩
    · have H3 := hid h3
      obtain ⟨g1, g2, g3, g4⟩ := canT_iff h1
      have g5 := goodHt_iff.1 h3
      have hN := (goodNet_get g1).1
      obtain ⟨M, rfl⟩ : ∃ M : Nat, N = M := ⟨N.toNat, by omega⟩
      have hmM : m = M := by omega
      subst hmM
      have hrM : r = m := by omega
      subst hrM
      obtain ⟨s0, rfl⟩ : ∃ s0 : Nat, s = s0 := ⟨s.toNat, by omega⟩
      have e0 : pressR r l s0 ds hd hs0 = (prs (headL l (tflows r l s0 ds n) s0 hd r) hs0 r, true) := by
        unfold pressR
        rw [if_pos ⟨by simp [h1, h2], h3⟩, hl]
        simp
      rw [e0] at hR
      cases hR
      rw [prs_len, headL_len]
      have HG := hid g1
      have HS := hid (show 1 ≤ s0 ∧ s0 ≤ r by omega)
      have HD := hid g3.2
      have HT := hid g4
      have HH := hid (inR_iff.1 h2)
      have HHT := hid g5.2
      clear h1 h2 h3 hl hl' hl'' e0 g1 g2 g3 g4 g5
      go_enter Try.func39, Try.ntmps39
      go_wp2_with fail
      refine (s_l9Asked _ _ _ _ _ _ _ _ _ l ds _ (H.out.below (by go_grown)) (H'.out.below (by go_grown)) hn hm).mono ?_
      rintro e w1 ⟨rfl, hb1⟩
      rw [H0.out]
      obtain ⟨hc_w1, hf_w1⟩ := bcell hb1
      have hz_w1_0 : w.heap.size < w1.heap.size := by have := hb1.size; simp only [World.size_alloc] at this; omega
      have HB1 := hid (bstep (by go_grown) hb1 : Below w.heap.size w w1)
      go_wp2_with fail
      refine (s_l9Heights _ _ _ _ _ _ _ hs0 _ (H''.out.below HB1.out) hr).mono ?_
      rintro e w2 ⟨rfl, hb2⟩
      rw [H3.out]
      obtain ⟨hc_w2, hf_w2⟩ := bcell hb2
      have hz_w2_0 : w.heap.size < w2.heap.size := by have := hb2.size; omega
      have HB2 := hid (bstep HB1.out hb2 : Below w.heap.size w w2)
      go_wp2_with fail
      refine (s_l9Pressures r s0 hd _ _ _ n _ _ _ l ds hs0 _ (H.out.below HB2.out) (H'.out.below HB2.out) (H''.out.below HB2.out) HG.out HS.out HD.out HT.out hc HH.out HHT.out).mono ?_
      rintro e w3 ⟨a3, c3, rfl, ho3, hb3⟩
      have HO := hid ho3
      have HB3 := hid (bstep HB2.out hb3)
      clear ho3 hb3
      go_wp2
      go_ret2
      exact ⟨_, _, rfl, HO.out.mono HB2.out.size, HB3.out⟩

end Go.Proofs.Ythhogblnndmenaa
