/-
  HeadsOf, in the program and in the reference.
-/
import Derived.Test.YthhogblnndmenaaHeadI
import Derived.Test.YthhogblnndmenaaTreeF
set_option linter.unusedVariables false
set_option linter.unusedSimpArgs false
namespace Go.Proofs.Ythhogblnndmenaa
open Go.RowKit

theorem i_isHead (x : Int) (w : World) : Calls Try.prog 80 #[.int .i64 x] w fun e w' => e = .returned (.bool (inR x 0 100000000000)) ∧ w = w' := by
  go_enter Try.func80, Try.ntmps80
  go_wp2_with fail
  refine (i_inside _ _ _ _).mono ?_
  rintro e _ ⟨rfl, rfl⟩
  go_wp2
  go_ret
  exact ⟨rfl, rfl⟩
theorem s_l9Head (x : Int) (w : World) : Calls Try.prog 83 #[.int .i64 x] w fun e w' => e = .returned (.bool (inR x 0 100000000000)) ∧ w = w' := by
  go_enter Try.func83, Try.ntmps83
  go_wp2_with fail
  refine (s_l1In _ _ _ _).mono ?_
  rintro e _ ⟨rfl, rfl⟩
  go_wp2
  go_ret
  exact ⟨rfl, rfl⟩
theorem s_l9Asked (N s hd : Int) (a p : Option Addr) (n c m d : Nat) (l : List Pip) (ds : List Int) (w : World) (h : QAt w a n l) (h' : IntsAt w p m ds) (hn : n ≤ 1048576) (hm : m ≤ 1048576) :
    Calls Try.prog 78 #[.agg #[.int .i64 N, .slice a n c], .int .i64 s, .slice p m d, .int .i64 hd] w fun e w' => e = .returned (.bool (canT N l s ds && inR hd 0 100000000000)) ∧ Below w.heap.size w w' := by
  have H := hid h
  have H' := hid h'
  clear h h'
  cases h1 : goodNet N l && inR s 1 N
  · have H1 := hid h1
    have E := hid (show false = (canT N l s ds && inR hd 0 100000000000) by simp [canT, h1])
    clear h1
    go_enter Try.func78, Try.ntmps78
    go_wp2_with fail
    refine (s_l2Node _ s _ _ _ l _ (H.out.below (by go_grown)) hn).mono ?_
    rintro e w1 ⟨rfl, hb1⟩
    rw [H1.out]
    obtain ⟨hc_w1, hf_w1⟩ := bcell hb1
    have hz_w1_0 : w.heap.size < w1.heap.size := by have := hb1.size; simp only [World.size_alloc] at this; omega
    have HB1 := hid (bstep (by go_grown) hb1 : Below w.heap.size w w1)
    go_wp2
    go_ret
    exact ⟨ret_bool E.out, HB1.out⟩
  · have H1 := hid h1
    cases h2 : goodDem N ds
    · have H2 := hid h2
      have E := hid (show false = (canT N l s ds && inR hd 0 100000000000) by simp [canT, h2])
      clear h1 h2
      go_enter Try.func78, Try.ntmps78
      go_wp2_with fail
      refine (s_l2Node _ s _ _ _ l _ (H.out.below (by go_grown)) hn).mono ?_
      rintro e w1 ⟨rfl, hb1⟩
      rw [H1.out]
      obtain ⟨hc_w1, hf_w1⟩ := bcell hb1
      have hz_w1_0 : w.heap.size < w1.heap.size := by have := hb1.size; simp only [World.size_alloc] at this; omega
      have HB1 := hid (bstep (by go_grown) hb1 : Below w.heap.size w w1)
      go_wp2_with fail
      refine (s_l8Demands _ _ _ _ _ _ _ ds _ (H'.out.below HB1.out) hm).mono ?_
      rintro e w2 ⟨rfl, hb2⟩
      rw [H2.out]
      obtain ⟨hc_w2, hf_w2⟩ := bcell hb2
      have hz_w2_0 : w.heap.size < w2.heap.size := by have := hb2.size; omega
      have HB2 := hid (bstep HB1.out hb2 : Below w.heap.size w w2)
      go_wp2
      go_ret
      exact ⟨ret_bool E.out, HB2.out⟩
    · have H2 := hid h2
      obtain ⟨g1, g2⟩ := (Bool.and_eq_true _ _).mp h1
      have hN := (goodNet_get g1).1
      obtain ⟨M, rfl⟩ : ∃ M : Nat, N = M := ⟨N.toNat, by omega⟩
      have HG := hid g1
      cases h3 : treeB M l
      · have E := hid (show false = (canT M l s ds && inR hd 0 100000000000) by simp [canT, h3])
        have H3 := hid h3
        clear h1 h2 h3 g1 g2
        go_enter Try.func78, Try.ntmps78
        go_wp2_with fail
        refine (s_l2Node _ s _ _ _ l _ (H.out.below (by go_grown)) hn).mono ?_
        rintro e w1 ⟨rfl, hb1⟩
        rw [H1.out]
        obtain ⟨hc_w1, hf_w1⟩ := bcell hb1
        have hz_w1_0 : w.heap.size < w1.heap.size := by have := hb1.size; simp only [World.size_alloc] at this; omega
        have HB1 := hid (bstep (by go_grown) hb1 : Below w.heap.size w w1)
        go_wp2_with fail
        refine (s_l8Demands _ _ _ _ _ _ _ ds _ (H'.out.below HB1.out) hm).mono ?_
        rintro e w2 ⟨rfl, hb2⟩
        rw [H2.out]
        obtain ⟨hc_w2, hf_w2⟩ := bcell hb2
        have hz_w2_0 : w.heap.size < w2.heap.size := by have := hb2.size; omega
        have HB2 := hid (bstep HB1.out hb2 : Below w.heap.size w w2)
        go_wp2_with fail
        refine (s_l8Tree _ _ _ _ l _ (H.out.below HB2.out) HG.out).mono ?_
        rintro e w3 ⟨rfl, hb3⟩
        rw [H3.out]
        obtain ⟨hc_w3, hf_w3⟩ := bcell hb3
        have hz_w3_0 : w.heap.size < w3.heap.size := by have := hb3.size; omega
        have HB3 := hid (bstep HB2.out hb3 : Below w.heap.size w w3)
        go_wp2
        go_ret
        exact ⟨ret_bool E.out, HB3.out⟩
      · have E := hid (show inR hd 0 100000000000 = (canT M l s ds && inR hd 0 100000000000) by simp [canT, h1, h2, h3])
        have H3 := hid h3
        clear h1 h2 h3 g1 g2
        go_enter Try.func78, Try.ntmps78
        go_wp2_with fail
        refine (s_l2Node _ s _ _ _ l _ (H.out.below (by go_grown)) hn).mono ?_
        rintro e w1 ⟨rfl, hb1⟩
        rw [H1.out]
        obtain ⟨hc_w1, hf_w1⟩ := bcell hb1
        have hz_w1_0 : w.heap.size < w1.heap.size := by have := hb1.size; simp only [World.size_alloc] at this; omega
        have HB1 := hid (bstep (by go_grown) hb1 : Below w.heap.size w w1)
        go_wp2_with fail
        refine (s_l8Demands _ _ _ _ _ _ _ ds _ (H'.out.below HB1.out) hm).mono ?_
        rintro e w2 ⟨rfl, hb2⟩
        rw [H2.out]
        obtain ⟨hc_w2, hf_w2⟩ := bcell hb2
        have hz_w2_0 : w.heap.size < w2.heap.size := by have := hb2.size; omega
        have HB2 := hid (bstep HB1.out hb2 : Below w.heap.size w w2)
        go_wp2_with fail
        refine (s_l8Tree _ _ _ _ l _ (H.out.below HB2.out) HG.out).mono ?_
        rintro e w3 ⟨rfl, hb3⟩
        rw [H3.out]
        obtain ⟨hc_w3, hf_w3⟩ := bcell hb3
        have hz_w3_0 : w.heap.size < w3.heap.size := by have := hb3.size; omega
        have HB3 := hid (bstep HB2.out hb3 : Below w.heap.size w w3)
        go_wp2_with fail
        refine (s_l9Head _ _).mono ?_
        rintro e _ ⟨rfl, rfl⟩
        go_wp2
        go_ret
        exact ⟨ret_bool E.out, HB3.out⟩

/-- What HeadsOf returns. -/
noncomputable def headsR (N : Int) (l : List Pip) (s : Int) (ds : List Int) (hd : Int) : List Int × Bool := if (canT N l s ds && inR hd 0 100000000000) = true then (headL l (tflows N.toNat l s ds l.length) s hd N.toNat, true) else ([], false)
theorem headsR_len {N : Int} {l : List Pip} {s : Int} {ds : List Int} {hd : Int} {R : List Int} {b : Bool} (h : headsR N l s ds hd = (R, b)) : R.length ≤ 1000 := by
  unfold headsR at h
  split at h
  · rename_i h1
    cases h
    rw [headL_len]
    have := (goodNet_get (canT_iff ((Bool.and_eq_true _ _).mp h1).1).1).1
    omega
  · cases h
    simp

set_option maxRecDepth 100000 in
set_option maxHeartbeats 2000000 in
theorem i_HeadsOf (N s hd : Int) (a p : Option Addr) (n c m d : Nat) (l : List Pip) (ds : List Int) (w : World) (h : QAt w a n l) (h' : IntsAt w p m ds) (hn : n ≤ 1048576) (hm : m ≤ 1048576) (R : List Int) (b : Bool) (hR : headsR N l s ds hd = (R, b)) :
    Calls Try.prog 36 #[.agg #[.int .i64 N, .slice a n c], .int .i64 s, .slice p m d, .int .i64 hd] w fun e w' => ∃ a' c', e = .returned (.tuple #[.slice a' R.length c', .bool b]) ∧ OwnI w' w.heap.size (.slice a' R.length c') R ∧ Below w.heap.size w w' := by
  have hl := h.1
  have hl' := h'.1
  have H := hid h
  have H' := hid h'
  clear h h'
  cases h1 : canT N l s ds
  · have e0 : headsR N l s ds hd = ([], false) := by simp [headsR, h1]
    rw [e0] at hR
    cases hR
    have H1 := hid h1
    clear h1 hl hl'
    go_enter Try.func36, Try.ntmps36
    go_wp2_with fail
    refine (i_canTree _ _ _ _ _ _ _ _ l ds _ (H.out.below (by go_grown)) (H'.out.below (by go_grown)) hn hm).mono ?_
    rintro e w1 ⟨rfl, hb1⟩
    rw [H1.out]
    obtain ⟨hc_w1, hf_w1⟩ := bcell hb1
    have hz_w1_0 : w.heap.size < w1.heap.size := by have := hb1.size; simp only [World.size_alloc] at this; omega
    have HB1 := hid (bstep (by go_grown) hb1 : Below w.heap.size w w1)
    go_wp2
    go_ret2
    exact ⟨_, _, rfl, OwnI.nil _ _, HB1.out⟩
  · have H1 := hid h1
    cases h2 : inR hd 0 100000000000
    · have e0 : headsR N l s ds hd = ([], false) := by simp [headsR, h2]
      rw [e0] at hR
      cases hR
      have H2 := hid h2
      clear h1 h2 hl hl'
      go_enter Try.func36, Try.ntmps36
      go_wp2_with fail
      refine (i_canTree _ _ _ _ _ _ _ _ l ds _ (H.out.below (by go_grown)) (H'.out.below (by go_grown)) hn hm).mono ?_
      rintro e w1 ⟨rfl, hb1⟩
      rw [H1.out]
      obtain ⟨hc_w1, hf_w1⟩ := bcell hb1
      have hz_w1_0 : w.heap.size < w1.heap.size := by have := hb1.size; simp only [World.size_alloc] at this; omega
      have HB1 := hid (bstep (by go_grown) hb1 : Below w.heap.size w w1)
      go_wp2_with fail
      refine (i_isHead _ _).mono ?_
      rintro e _ ⟨rfl, rfl⟩
      rw [H2.out]
      go_wp2
      go_ret2
      exact ⟨_, _, rfl, OwnI.nil _ _, HB1.out⟩
    · have H2 := hid h2
      obtain ⟨g1, g2, g3, g4⟩ := canT_iff h1
      have hN := (goodNet_get g1).1
      obtain ⟨M, rfl⟩ : ∃ M : Nat, N = M := ⟨N.toNat, by omega⟩
      have hmM : m = M := by omega
      subst hmM
      obtain ⟨s0, rfl⟩ : ∃ s0 : Nat, s = s0 := ⟨s.toNat, by omega⟩
      have e0 : headsR m l s0 ds hd = (headL l (tflows m l s0 ds n) s0 hd m, true) := by
        unfold headsR
        rw [if_pos (by simp [h1, h2]), hl]
        simp
      rw [e0] at hR
      cases hR
      rw [headL_len]
      have HG := hid g1
      have HS := hid (show 1 ≤ s0 ∧ s0 ≤ m by omega)
      have HD := hid g3.2
      have HT := hid g4
      have HH := hid (inR_iff.1 h2)
      clear h1 h2 hl hl' e0 g1 g2 g3 g4
      go_enter Try.func36, Try.ntmps36
      go_wp2_with fail
      refine (i_canTree _ _ _ _ _ _ _ _ l ds _ (H.out.below (by go_grown)) (H'.out.below (by go_grown)) hn hm).mono ?_
      rintro e w1 ⟨rfl, hb1⟩
      rw [H1.out]
      obtain ⟨hc_w1, hf_w1⟩ := bcell hb1
      have hz_w1_0 : w.heap.size < w1.heap.size := by have := hb1.size; simp only [World.size_alloc] at this; omega
      have HB1 := hid (bstep (by go_grown) hb1 : Below w.heap.size w w1)
      go_wp2_with fail
      refine (i_isHead _ _).mono ?_
      rintro e _ ⟨rfl, rfl⟩
      rw [H2.out]
      go_wp2_with fail
      refine (i_headsOf m s0 hd _ _ n _ _ l ds _ (H.out.below HB1.out) (H'.out.below HB1.out) HG.out HS.out HD.out HT.out HH.out).mono ?_
      rintro e w2 ⟨a2, c2, rfl, ho2, hb2⟩
      have HO := hid ho2
      have HB2 := hid (bstep HB1.out hb2)
      clear ho2 hb2
      go_wp2
      go_ret2
      exact ⟨_, _, rfl, HO.out.mono HB1.out.size, HB2.out⟩

set_option maxRecDepth 100000 in
set_option maxHeartbeats 2000000 in
theorem s_HeadsOf (N s hd : Int) (a p : Option Addr) (n c m d : Nat) (l : List Pip) (ds : List Int) (w : World) (h : QAt w a n l) (h' : IntsAt w p m ds) (hn : n ≤ 1048576) (hm : m ≤ 1048576) (hc : n ≤ c) (R : List Int) (b : Bool) (hR : headsR N l s ds hd = (R, b)) :
    Calls Try.prog 35 #[.agg #[.int .i64 N, .slice a n c], .int .i64 s, .slice p m d, .int .i64 hd] w fun e w' => ∃ a' c', e = .returned (.tuple #[.slice a' R.length c', .bool b]) ∧ OwnI w' w.heap.size (.slice a' R.length c') R ∧ Below w.heap.size w w' := by
  have hl := h.1
  have hl' := h'.1
  have H := hid h
  have H' := hid h'
  clear h h'
  cases h0 : canT N l s ds && inR hd 0 100000000000
  · have e0 : headsR N l s ds hd = ([], false) := by simp [headsR, h0]
    rw [e0] at hR
    cases hR
    have H0 := hid h0
    clear h0 hl hl'
    go_enter Try.func35, Try.ntmps35
    go_wp2_with fail
    refine (s_l9Asked _ _ _ _ _ _ _ _ _ l ds _ (H.out.below (by go_grown)) (H'.out.below (by go_grown)) hn hm).mono ?_
    rintro e w1 ⟨rfl, hb1⟩
    rw [H0.out]
    obtain ⟨hc_w1, hf_w1⟩ := bcell hb1
    have hz_w1_0 : w.heap.size < w1.heap.size := by have := hb1.size; simp only [World.size_alloc] at this; omega
    have HB1 := hid (bstep (by go_grown) hb1 : Below w.heap.size w w1)
    go_wp2
    go_ret2
    exact ⟨_, _, rfl, (OwnI.lit0 _).mono HB1.out.size, bstep HB1.out (by go_grown)⟩
  · have H0 := hid h0
    obtain ⟨h1, h2⟩ := (Bool.and_eq_true _ _).mp h0
    obtain ⟨g1, g2, g3, g4⟩ := canT_iff h1
    have hN := (goodNet_get g1).1
    obtain ⟨M, rfl⟩ : ∃ M : Nat, N = M := ⟨N.toNat, by omega⟩
    have hmM : m = M := by omega
    subst hmM
    obtain ⟨s0, rfl⟩ : ∃ s0 : Nat, s = s0 := ⟨s.toNat, by omega⟩
    have e0 : headsR m l s0 ds hd = (headL l (tflows m l s0 ds n) s0 hd m, true) := by
      unfold headsR
      rw [if_pos (by simp [h1, h2]), hl]
      simp
    rw [e0] at hR
    cases hR
    rw [headL_len]
    have HG := hid g1
    have HS := hid (show 1 ≤ s0 ∧ s0 ≤ m by omega)
    have HD := hid g3.2
    have HT := hid g4
    have HH := hid (inR_iff.1 h2)
    clear h1 h2 hl hl' e0 g1 g2 g3 g4
    go_enter Try.func35, Try.ntmps35
    go_wp2_with fail
    refine (s_l9Asked _ _ _ _ _ _ _ _ _ l ds _ (H.out.below (by go_grown)) (H'.out.below (by go_grown)) hn hm).mono ?_
    rintro e w1 ⟨rfl, hb1⟩
    rw [H0.out]
    obtain ⟨hc_w1, hf_w1⟩ := bcell hb1
    have hz_w1_0 : w.heap.size < w1.heap.size := by have := hb1.size; simp only [World.size_alloc] at this; omega
    have HB1 := hid (bstep (by go_grown) hb1 : Below w.heap.size w w1)
    go_wp2_with fail
    refine (s_l9Heads m s0 hd _ _ n _ _ l ds _ (H.out.below HB1.out) (H'.out.below HB1.out) HG.out HS.out HD.out HT.out hc HH.out).mono ?_
    rintro e w2 ⟨a2, c2, rfl, ho2, hb2⟩
    have HO := hid ho2
    have HB2 := hid (bstep HB1.out hb2)
    clear ho2 hb2
    go_wp2
    go_ret2
    exact ⟨_, _, rfl, HO.out.mono HB1.out.size, HB2.out⟩

end Go.Proofs.Ythhogblnndmenaa
