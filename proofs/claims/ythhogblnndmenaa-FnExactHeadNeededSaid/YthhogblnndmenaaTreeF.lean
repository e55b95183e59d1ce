/-
  TreeFlows, in the program and in the reference.
-/
import Derived.Test.YthhogblnndmenaaTreeW
import Derived.Test.YthhogblnndmenaaNode
set_option linter.unusedVariables false
set_option linter.unusedSimpArgs false
namespace Go.Proofs.Ythhogblnndmenaa
open Go.RowKit

/-- A network is a tree, a source and demands are valid. -/
noncomputable def canT (N : Int) (l : List Pip) (s : Int) (ds : List Int) : Bool := (goodNet N l && inR s 1 N) && goodDem N ds && treeB N l
theorem canT_iff {N : Int} {l : List Pip} {s : Int} {ds : List Int} (h : canT N l s ds = true) : goodNet N l = true ∧ (1 ≤ s ∧ s ≤ N) ∧ ((ds.length : Int) = N ∧ ∀ x ∈ ds, 0 ≤ x ∧ x ≤ 1000) ∧ treeB N l = true := by
  unfold canT at h
  simp only [Bool.and_eq_true] at h
  exact ⟨h.1.1.1, inR_iff.1 h.1.1.2, goodDem_iff.1 h.1.2, h.2⟩

theorem i_canTree (N s : Int) (a p : Option Addr) (n c m d : Nat) (l : List Pip) (ds : List Int) (w : World) (h : QAt w a n l) (h' : IntsAt w p m ds) (hn : n ≤ 1048576) (hm : m ≤ 1048576) :
    Calls Try.prog 51 #[.agg #[.int .i64 N, .slice a n c], .int .i64 s, .slice p m d] w fun e w' => e = .returned (.bool (canT N l s ds)) ∧ Below w.heap.size w w' := by
  have H := hid h
  have H' := hid h'
  clear h h'
  cases h1 : goodNet N l && inR s 1 N
  · have H1 := hid h1
    have E := hid (show false = canT N l s ds by simp [canT, h1])
    clear h1
    go_enter Try.func51, Try.ntmps51
    go_wp2_with fail
    refine (i_hasNode _ s _ _ _ l _ (H.out.below (by go_grown)) hn).mono ?_
    rintro e w1 ⟨rfl, hb1⟩
    rw [H1.out]
    obtain ⟨hc_w1, hf_w1⟩ := bcell hb1
    have hz_w1_0 : w.heap.size < w1.heap.size := by have := hb1.size; simp only [World.size_alloc] at this; omega
    have HB1 := hid (bstep (by go_grown) hb1 : Below w.heap.size w w1)
    go_wp2
    go_ret
    exact ⟨ret_bool E.out, HB1.out⟩
  · have H1 := hid h1
    cases h2 : goodDem N ds
    · have H2 := hid h2
      have E := hid (show false = canT N l s ds by simp [canT, h2])
      clear h1 h2
      go_enter Try.func51, Try.ntmps51
      go_wp2_with fail
      refine (i_hasNode _ s _ _ _ l _ (H.out.below (by go_grown)) hn).mono ?_
      rintro e w1 ⟨rfl, hb1⟩
      rw [H1.out]
      obtain ⟨hc_w1, hf_w1⟩ := bcell hb1
      have hz_w1_0 : w.heap.size < w1.heap.size := by have := hb1.size; simp only [World.size_alloc] at this; omega
      have HB1 := hid (bstep (by go_grown) hb1 : Below w.heap.size w w1)
      go_wp2_with fail
      refine (i_areDemands _ _ _ _ _ _ _ ds _ (H'.out.below HB1.out) hm).mono ?_
      rintro e w2 ⟨rfl, hb2⟩
      rw [H2.out]
      obtain ⟨hc_w2, hf_w2⟩ := bcell hb2
      have hz_w2_0 : w.heap.size < w2.heap.size := by have := hb2.size; omega
      have HB2 := hid (bstep HB1.out hb2 : Below w.heap.size w w2)
      go_wp2
      go_ret
      exact ⟨ret_bool E.out, HB2.out⟩
    · have H2 := hid h2
      obtain ⟨g1, g2⟩ := (Bool.and_eq_true _ _).mp h1
      have hN := (goodNet_get g1).1
      obtain ⟨M, rfl⟩ : ∃ M : Nat, N = M := ⟨N.toNat, by omega⟩
      have HG := hid g1
      have E := hid (show treeB M l = canT M l s ds by simp [canT, h1, h2])
      obtain ⟨z, hz⟩ : ∃ z, treeB M l = z := ⟨_, rfl⟩
      rw [hz] at E
      have H3 := hid hz
      clear h1 h2 g1 g2 hz
      go_enter Try.func51, Try.ntmps51
      go_wp2_with fail
      refine (i_hasNode _ s _ _ _ l _ (H.out.below (by go_grown)) hn).mono ?_
      rintro e w1 ⟨rfl, hb1⟩
      rw [H1.out]
      obtain ⟨hc_w1, hf_w1⟩ := bcell hb1
      have hz_w1_0 : w.heap.size < w1.heap.size := by have := hb1.size; simp only [World.size_alloc] at this; omega
      have HB1 := hid (bstep (by go_grown) hb1 : Below w.heap.size w w1)
      go_wp2_with fail
      refine (i_areDemands _ _ _ _ _ _ _ ds _ (H'.out.below HB1.out) hm).mono ?_
      rintro e w2 ⟨rfl, hb2⟩
      rw [H2.out]
      obtain ⟨hc_w2, hf_w2⟩ := bcell hb2
      have hz_w2_0 : w.heap.size < w2.heap.size := by have := hb2.size; omega
      have HB2 := hid (bstep HB1.out hb2 : Below w.heap.size w w2)
      go_wp2_with fail
      refine (i_isTree _ _ _ _ l _ (H.out.below HB2.out) HG.out).mono ?_
      rintro e w3 ⟨rfl, hb3⟩
      rw [H3.out]
      obtain ⟨hc_w3, hf_w3⟩ := bcell hb3
      have hz_w3_0 : w.heap.size < w3.heap.size := by have := hb3.size; omega
      have HB3 := hid (bstep HB2.out hb3 : Below w.heap.size w w3)
      go_wp2
      go_ret
      exact ⟨ret_bool E.out, HB3.out⟩

/-- What TreeFlows returns. -/
noncomputable def treesR (N : Int) (l : List Pip) (s : Int) (ds : List Int) : List Int × Bool := if canT N l s ds = true then (tflows N.toNat l s ds l.length, true) else ([], false)
theorem treesR_len {N : Int} {l : List Pip} {s : Int} {ds R : List Int} {b : Bool} (h : treesR N l s ds = (R, b)) : R.length ≤ 1000 := by
  unfold treesR at h
  split at h
  · rename_i h1
    cases h
    rw [tflows_len]
    have := (goodNet_get (canT_iff h1).1).2.1
    omega
  · cases h
    simp

set_option maxRecDepth 100000 in
set_option maxHeartbeats 2000000 in
theorem i_TreeFlows (N s : Int) (a p : Option Addr) (n c m d : Nat) (l : List Pip) (ds : List Int) (w : World) (h : QAt w a n l) (h' : IntsAt w p m ds) (hn : n ≤ 1048576) (hm : m ≤ 1048576) (R : List Int) (b : Bool) (hR : treesR N l s ds = (R, b)) :
    Calls Try.prog 18 #[.agg #[.int .i64 N, .slice a n c], .int .i64 s, .slice p m d] w fun e w' => ∃ a' c', e = .returned (.tuple #[.slice a' R.length c', .bool b]) ∧ OwnI w' w.heap.size (.slice a' R.length c') R ∧ Below w.heap.size w w' := by
  have hl := h.1
  have hl' := h'.1
  have H := hid h
  have H' := hid h'
  clear h h'
  cases h1 : canT N l s ds
  · have e0 : treesR N l s ds = ([], false) := by simp [treesR, h1]
    rw [e0] at hR
    cases hR
    have H1 := hid h1
    clear h1 hl hl'
    go_enter Try.func18, Try.ntmps18
    go_wp2_with fail
    refine (i_canTree _ _ _ _ _ _ _ _ l ds _ (H.out.below (by go_grown)) (H'.out.below (by go_grown)) hn hm).mono ?_
    rintro e w1 ⟨rfl, hb1⟩
    rw [H1.out]
    obtain ⟨hc_w1, hf_w1⟩ := bcell hb1
    have hz_w1_0 : w.heap.size < w1.heap.size := by have := hb1.size; simp only [World.size_alloc] at this; omega
    have HB1 := hid (bstep (by go_grown) hb1 : Below w.heap.size w w1)
    go_wp2
    go_ret2
    exact ⟨_, _, rfl, OwnI.nil _ _, HB1.out⟩
  · obtain ⟨g1, g2, g3, g4⟩ := canT_iff h1
    have hN := (goodNet_get g1).1
    obtain ⟨M, rfl⟩ : ∃ M : Nat, N = M := ⟨N.toNat, by omega⟩
    have hmM : m = M := by omega
    subst hmM
    have e0 : treesR m l s ds = (tflows m l s ds n, true) := by
      unfold treesR
      rw [if_pos h1, hl]
      simp
    rw [e0] at hR
    cases hR
    rw [tflows_len]
    have H1 := hid h1
    have HG := hid g1
    have HS := hid g2
    have HD := hid g3.2
    clear h1 hl hl' e0 g1 g2 g3 g4
    go_enter Try.func18, Try.ntmps18
    go_wp2_with fail
    refine (i_canTree _ _ _ _ _ _ _ _ l ds _ (H.out.below (by go_grown)) (H'.out.below (by go_grown)) hn hm).mono ?_
    rintro e w1 ⟨rfl, hb1⟩
    rw [H1.out]
    obtain ⟨hc_w1, hf_w1⟩ := bcell hb1
    have hz_w1_0 : w.heap.size < w1.heap.size := by have := hb1.size; simp only [World.size_alloc] at this; omega
    have HB1 := hid (bstep (by go_grown) hb1 : Below w.heap.size w w1)
    go_wp2_with fail
    refine (i_treeFlows m s _ _ n _ _ l ds _ (H.out.below HB1.out) (H'.out.below HB1.out) HG.out HS.out HD.out).mono ?_
    rintro e w2 ⟨a2, c2, rfl, ho2, hb2⟩
    have HO := hid ho2
    have HB2 := hid (bstep HB1.out hb2)
    clear ho2 hb2
    go_wp2
    go_ret2
    exact ⟨_, _, rfl, HO.out.mono HB1.out.size, HB2.out⟩

set_option maxRecDepth 100000 in
set_option maxHeartbeats 2000000 in
theorem s_TreeFlows (N s : Int) (a p : Option Addr) (n c m d : Nat) (l : List Pip) (ds : List Int) (w : World) (h : QAt w a n l) (h' : IntsAt w p m ds) (hn : n ≤ 1048576) (hm : m ≤ 1048576) (hc : n ≤ c) (R : List Int) (b : Bool) (hR : treesR N l s ds = (R, b)) :
    Calls Try.prog 15 #[.agg #[.int .i64 N, .slice a n c], .int .i64 s, .slice p m d] w fun e w' => ∃ a' c', e = .returned (.tuple #[.slice a' R.length c', .bool b]) ∧ OwnI w' w.heap.size (.slice a' R.length c') R ∧ Below w.heap.size w w' := by
  have hl := h.1
  have hl' := h'.1
  have H := hid h
  have H' := hid h'
  clear h h'
  cases h1 : goodNet N l && inR s 1 N
  · have e0 : treesR N l s ds = ([], false) := by simp [treesR, canT, h1]
    rw [e0] at hR
    cases hR
    have H1 := hid h1
    clear h1 hl hl' e0
    go_enter Try.func15, Try.ntmps15
    go_wp2_with fail
    refine (s_l2Node _ s _ _ _ l _ (H.out.below (by go_grown)) hn).mono ?_
    rintro e w1 ⟨rfl, hb1⟩
    rw [H1.out]
    obtain ⟨hc_w1, hf_w1⟩ := bcell hb1
    have hz_w1_0 : w.heap.size < w1.heap.size := by have := hb1.size; simp only [World.size_alloc] at this; omega
    have HB1 := hid (bstep (by go_grown) hb1 : Below w.heap.size w w1)
    go_wp2
    go_ret2
    exact ⟨_, _, rfl, (OwnI.lit0 _).mono HB1.out.size, bstep HB1.out (by go_grown)⟩
  · have H1 := hid h1
    cases h2 : goodDem N ds
    · have e0 : treesR N l s ds = ([], false) := by simp [treesR, canT, h2]
      rw [e0] at hR
      cases hR
      have H2 := hid h2
      clear h1 h2 hl hl' e0
      go_enter Try.func15, Try.ntmps15
      go_wp2_with fail
      refine (s_l2Node _ s _ _ _ l _ (H.out.below (by go_grown)) hn).mono ?_
      rintro e w1 ⟨rfl, hb1⟩
      rw [H1.out]
      obtain ⟨hc_w1, hf_w1⟩ := bcell hb1
      have hz_w1_0 : w.heap.size < w1.heap.size := by have := hb1.size; simp only [World.size_alloc] at this; omega
      have HB1 := hid (bstep (by go_grown) hb1 : Below w.heap.size w w1)
      go_wp2_with fail
      refine (s_l8Demands _ _ _ _ _ _ _ ds _ (H'.out.below HB1.out) hm).mono ?_
      rintro e w2 ⟨rfl, hb2⟩
      rw [H2.out]
      obtain ⟨hc_w2, hf_w2⟩ := bcell hb2
      have hz_w2_0 : w.heap.size < w2.heap.size := by have := hb2.size; omega
      have HB2 := hid (bstep HB1.out hb2 : Below w.heap.size w w2)
      go_wp2
      go_ret2
      exact ⟨_, _, rfl, (OwnI.lit0 _).mono HB2.out.size, bstep HB2.out (by go_grown)⟩
    · have H2 := hid h2
      obtain ⟨g1, g2⟩ := (Bool.and_eq_true _ _).mp h1
      have hN := (goodNet_get g1).1
      obtain ⟨M, rfl⟩ : ∃ M : Nat, N = M := ⟨N.toNat, by omega⟩
      have HG := hid g1
      have HS := hid (inR_iff.1 g2)
      cases h3 : treeB M l
      · have e0 : treesR M l s ds = ([], false) := by simp [treesR, canT, h3]
        rw [e0] at hR
        cases hR
        have H3 := hid h3
        clear h1 h2 h3 hl hl' e0 g1 g2
        go_enter Try.func15, Try.ntmps15
        go_wp2_with fail
        refine (s_l2Node _ s _ _ _ l _ (H.out.below (by go_grown)) hn).mono ?_
        rintro e w1 ⟨rfl, hb1⟩
        rw [H1.out]
        obtain ⟨hc_w1, hf_w1⟩ := bcell hb1
        have hz_w1_0 : w.heap.size < w1.heap.size := by have := hb1.size; simp only [World.size_alloc] at this; omega
        have HB1 := hid (bstep (by go_grown) hb1 : Below w.heap.size w w1)
        go_wp2_with fail
        refine (s_l8Demands _ _ _ _ _ _ _ ds _ (H'.out.below HB1.out) hm).mono ?_
        rintro e w2 ⟨rfl, hb2⟩
        rw [H2.out]
        obtain ⟨hc_w2, hf_w2⟩ := bcell hb2
        have hz_w2_0 : w.heap.size < w2.heap.size := by have := hb2.size; omega
        have HB2 := hid (bstep HB1.out hb2 : Below w.heap.size w w2)
        go_wp2_with fail
        refine (s_l8Tree _ _ _ _ l _ (H.out.below HB2.out) HG.out).mono ?_
        rintro e w3 ⟨rfl, hb3⟩
        rw [H3.out]
        obtain ⟨hc_w3, hf_w3⟩ := bcell hb3
        have hz_w3_0 : w.heap.size < w3.heap.size := by have := hb3.size; omega
        have HB3 := hid (bstep HB2.out hb3 : Below w.heap.size w w3)
        go_wp2
        go_ret2
        exact ⟨_, _, rfl, (OwnI.lit0 _).mono HB3.out.size, bstep HB3.out (by go_grown)⟩
      · have hx := goodDem_iff.1 h2
        have hmM : m = M := by omega
        subst hmM
        have e0 : treesR m l s ds = (tflows m l s ds n, true) := by
          unfold treesR
          rw [if_pos (by simp [canT, h1, h2, h3]), hl]
          simp
        rw [e0] at hR
        cases hR
        rw [tflows_len]
        have H3 := hid h3
        have HD := hid hx.2
        clear h1 h2 h3 hl hl' e0 g1 g2 hx
        go_enter Try.func15, Try.ntmps15
        go_wp2_with fail
        refine (s_l2Node _ s _ _ _ l _ (H.out.below (by go_grown)) hn).mono ?_
        rintro e w1 ⟨rfl, hb1⟩
        rw [H1.out]
        obtain ⟨hc_w1, hf_w1⟩ := bcell hb1
        have hz_w1_0 : w.heap.size < w1.heap.size := by have := hb1.size; simp only [World.size_alloc] at this; omega
        have HB1 := hid (bstep (by go_grown) hb1 : Below w.heap.size w w1)
        go_wp2_with fail
        refine (s_l8Demands _ _ _ _ _ _ _ ds _ (H'.out.below HB1.out) hm).mono ?_
        rintro e w2 ⟨rfl, hb2⟩
        rw [H2.out]
        obtain ⟨hc_w2, hf_w2⟩ := bcell hb2
        have hz_w2_0 : w.heap.size < w2.heap.size := by have := hb2.size; omega
        have HB2 := hid (bstep HB1.out hb2 : Below w.heap.size w w2)
        go_wp2_with fail
        refine (s_l8Tree _ _ _ _ l _ (H.out.below HB2.out) HG.out).mono ?_
        rintro e w3 ⟨rfl, hb3⟩
        rw [H3.out]
        obtain ⟨hc_w3, hf_w3⟩ := bcell hb3
        have hz_w3_0 : w.heap.size < w3.heap.size := by have := hb3.size; omega
        have HB3 := hid (bstep HB2.out hb3 : Below w.heap.size w w3)
        go_wp2_with fail
        refine (s_l8TreeFlows m s _ _ n _ _ l ds _ (H.out.below HB3.out) (H'.out.below HB3.out) HG.out HS.out HD.out H3.out hc).mono ?_
        rintro e w4 ⟨a4, c4, rfl, ho4, hb4⟩
        have HO := hid ho4
        have HB4 := hid (bstep HB3.out hb4)
        clear ho4 hb4
        go_wp2
        go_ret2
        exact ⟨_, _, rfl, HO.out.mono HB3.out.size, HB4.out⟩

end Go.Proofs.Ythhogblnndmenaa
