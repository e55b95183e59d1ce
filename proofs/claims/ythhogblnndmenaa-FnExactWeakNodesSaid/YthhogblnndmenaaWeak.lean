/-
  WeakNodes, in the program and in the reference.
-/
import Derived.Test.YthhogblnndmenaaPressF
set_option linter.unusedVariables false
set_option linter.unusedSimpArgs false
namespace Go.Proofs.Ythhogblnndmenaa
open Go.RowKit

/-- The nodes among the first with less than a number. -/
def weakL (L : List Int) (d : Int) : Nat → List Int
  | 0 => []
  | k + 1 => if L[k]?.getD 0 < d then weakL L d k ++ [(k : Int) + 1] else weakL L d k
theorem weakL_yes {L : List Int} {d : Int} {k : Nat} (h : L[k]?.getD 0 < d) : weakL L d (k + 1) = weakL L d k ++ [(k : Int) + 1] := by rw [weakL, if_pos h]
theorem weakL_no {L : List Int} {d : Int} {k : Nat} (h : ¬ L[k]?.getD 0 < d) : weakL L d (k + 1) = weakL L d k := by rw [weakL, if_neg h]
theorem weakL_len (L : List Int) (d : Int) : ∀ k, (weakL L d k).length ≤ k
  | 0 => Nat.le_refl _
  | k + 1 => by
    have := weakL_len L d k
    unfold weakL
    split <;> simp <;> omega

/-- What WeakNodes returns. -/
noncomputable def weakR (N : Int) (l : List Pip) (s : Int) (ds : List Int) (hd : Int) (hs : List Int) (need : Int) : List Int × Bool := if ((canT N l s ds && inR hd 0 100000000000) = true ∧ goodHt N hs = true) ∧ inR need 0 100000000000 = true then (weakL (prs (headL l (tflows N.toNat l s ds l.length) s hd N.toNat) hs N.toNat) need N.toNat, true) else ([], false)
theorem weakR_len {N : Int} {l : List Pip} {s : Int} {ds hs : List Int} {hd need : Int} {R : List Int} {b : Bool} (h : weakR N l s ds hd hs need = (R, b)) : R.length ≤ 1000 := by
  unfold weakR at h
  split at h
  · rename_i h1
    cases h
    have := weakL_len (prs (headL l (tflows N.toNat l s ds l.length) s hd N.toNat) hs N.toNat) need N.toNat
    have := (goodNet_get (canT_iff ((Bool.and_eq_true _ _).mp h1.1.1).1).1).1
    omega
  · cases h
    simp

set_option maxRecDepth 100000 in
set_option maxHeartbeats 2000000 in
theorem i_WeakNodes (N s hd need : Int) (a p q : Option Addr) (n c m d r e0 : Nat) (l : List Pip) (ds hs0 : List Int) (w : World) (h : QAt w a n l) (h' : IntsAt w p m ds) (h'' : IntsAt w q r hs0) (hn : n ≤ 1048576) (hm : m ≤ 1048576) (hr : r ≤ 1048576) (R : List Int) (b : Bool) (hR : weakR N l s ds hd hs0 need = (R, b)) :
    Calls Try.prog 42 #[.agg #[.int .i64 N, .slice a n c], .int .i64 s, .slice p m d, .int .i64 hd, .slice q r e0, .int .i64 need] w fun e w' => ∃ a' c', e = .returned (.tuple #[.slice a' R.length c', .bool b]) ∧ OwnI w' w.heap.size (.slice a' R.length c') R ∧ Below w.heap.size w w' := by
  have hl := h.1
  have hl' := h'.1
  have hl'' := h''.1
  have H := hid h
  have H' := hid h'
  have H'' := hid h''
  clear h h' h''
  cases h1 : canT N l s ds
  · have e0 : weakR N l s ds hd hs0 need = ([], false) := by simp [weakR, h1]
    rw [e0] at hR
    cases hR
    have H1 := hid h1
    clear h1 hl hl' hl''
    go_enter Try.func42, Try.ntmps42
    go_wp2_with fail
    refine (i_canTree _ _ _ _ _ _ _ _ l ds _ (H.out.below (by go_grown)) (H'.out.below (by go_grown)) hn hm).mono ?_
    rintro e w1 ⟨rfl, hb1⟩
    rw [H1.out]
    obtain ⟨hc_w1, hf_w1⟩ := bcell hb1
    have hz_w1_0 : w.heap.size < w1.heap.size := by have := hb1.size; simp only [World.size_alloc] at this; omega
    have HB1 := hid (bstep (by go_grown) hb1 : Below w.heap.size w w1)
    go_wp2
    go_ret2
    exact ⟨_, _, rfl, OwnI.nil _ _, HB1.out⟩
  · have H1 := hid h1
    cases h2 : inR hd 0 100000000000
    · have e0 : weakR N l s ds hd hs0 need = ([], false) := by simp [weakR, h2]
      rw [e0] at hR
      cases hR
      have H2 := hid h2
      clear h1 h2 hl hl' hl''
      go_enter Try.func42, Try.ntmps42
      go_wp2_with fail
      refine (i_canTree _ _ _ _ _ _ _ _ l ds _ (H.out.below (by go_grown)) (H'.out.below (by go_grown)) hn hm).mono ?_
      rintro e w1 ⟨rfl, hb1⟩
      rw [H1.out]
      obtain ⟨hc_w1, hf_w1⟩ := bcell hb1
      have hz_w1_0 : w.heap.size < w1.heap.size := by have := hb1.size; simp only [World.size_alloc] at this; omega
      have HB1 := hid (bstep (by go_grown) hb1 : Below w.heap.size w w1)
      go_wp2_with fail
      refine (i_isHead _ _).mono ?_
      rintro e _ ⟨rfl, rfl⟩
      rw [H2.out]
      go_wp2
      go_ret2
      exact ⟨_, _, rfl, OwnI.nil _ _, HB1.out⟩
    · have H2 := hid h2
      cases h3 : goodHt N hs0
      · have e0 : weakR N l s ds hd hs0 need = ([], false) := by simp [weakR, h3]
        rw [e0] at hR
        cases hR
        have H3 := hid h3
        clear h1 h2 h3 hl hl' hl''
        go_enter Try.func42, Try.ntmps42
        go_wp2_with fail
        refine (i_canTree _ _ _ _ _ _ _ _ l ds _ (H.out.below (by go_grown)) (H'.out.below (by go_grown)) hn hm).mono ?_
        rintro e w1 ⟨rfl, hb1⟩
        rw [H1.out]
        obtain ⟨hc_w1, hf_w1⟩ := bcell hb1
        have hz_w1_0 : w.heap.size < w1.heap.size := by have := hb1.size; simp only [World.size_alloc] at this; omega
        have HB1 := hid (bstep (by go_grown) hb1 : Below w.heap.size w w1)
        go_wp2_with fail
        refine (i_isHead _ _).mono ?_
        rintro e _ ⟨rfl, rfl⟩
        rw [H2.out]
        go_wp2_with fail
        refine (i_areHeights _ _ _ _ _ _ _ hs0 _ (H''.out.below HB1.out) hr).mono ?_
        rintro e w2 ⟨rfl, hb2⟩
        rw [H3.out]
        obtain ⟨hc_w2, hf_w2⟩ := bcell hb2
        have hz_w2_0 : w.heap.size < w2.heap.size := by have := hb2.size; omega
        have HB2 := hid (bstep HB1.out hb2 : Below w.heap.size w w2)
        go_wp2
        go_ret2
        exact ⟨_, _, rfl, OwnI.nil _ _, HB2.out⟩
      · have H3 := hid h3
        cases h4 : inR need 0 100000000000
        · have e0 : weakR N l s ds hd hs0 need = ([], false) := by simp [weakR, h4]
          rw [e0] at hR
          cases hR
          have H4 := hid h4
          clear h1 h2 h3 h4 hl hl' hl''
          go_enter Try.func42, Try.ntmps42
          go_wp2_with fail
          refine (i_canTree _ _ _ _ _ _ _ _ l ds _ (H.out.below (by go_grown)) (H'.out.below (by go_grown)) hn hm).mono ?_
          rintro e w1 ⟨rfl, hb1⟩
          rw [H1.out]
          obtain ⟨hc_w1, hf_w1⟩ := bcell hb1
          have hz_w1_0 : w.heap.size < w1.heap.size := by have := hb1.size; simp only [World.size_alloc] at this; omega
          have HB1 := hid (bstep (by go_grown) hb1 : Below w.heap.size w w1)
          go_wp2_with fail
          refine (i_isHead _ _).mono ?_
          rintro e _ ⟨rfl, rfl⟩
          rw [H2.out]
          go_wp2_with fail
          refine (i_areHeights _ _ _ _ _ _ _ hs0 _ (H''.out.below HB1.out) hr).mono ?_
          rintro e w2 ⟨rfl, hb2⟩
          rw [H3.out]
          obtain ⟨hc_w2, hf_w2⟩ := bcell hb2
          have hz_w2_0 : w.heap.size < w2.heap.size := by have := hb2.size; omega
          have HB2 := hid (bstep HB1.out hb2 : Below w.heap.size w w2)
          go_wp2_with fail
          refine (i_isHead _ _).mono ?_
          rintro e _ ⟨rfl, rfl⟩
          rw [H4.out]
          go_wp2
          go_ret2
          exact ⟨_, _, rfl, OwnI.nil _ _, HB2.out⟩
        · have H4 := hid h4
          obtain ⟨g1, g2, g3, g4⟩ := canT_iff h1
          have g5 := goodHt_iff.1 h3
          have hN := (goodNet_get g1).1
          obtain ⟨M, rfl⟩ : ∃ M : Nat, N = M := ⟨N.toNat, by omega⟩
          have hmM : m = M := by omega
          subst hmM
          have hrM : r = m := by omega
          subst hrM
          obtain ⟨s0, rfl⟩ : ∃ s0 : Nat, s = s0 := ⟨s.toNat, by omega⟩
          have HG := hid g1
          have HS := hid (show 1 ≤ s0 ∧ s0 ≤ r by omega)
          have HD := hid g3.2
          have HT := hid g4
          have HHT := hid g5.2
          have HN8 := hid (show 1 ≤ r ∧ r ≤ 8 by omega)
          have e0 : weakR r l s0 ds hd hs0 need = (weakL (prs (headL l (tflows r l s0 ds n) s0 hd r) hs0 r) need r, true) := by
            unfold weakR
            rw [if_pos ⟨⟨by simp [h1, h2], h3⟩, h4⟩, hl]
            simp
          rw [e0] at hR
          cases hR
          obtain ⟨P, hP⟩ : ∃ P, prs (headL l (tflows r l s0 ds n) s0 hd r) hs0 r = P := ⟨_, rfl⟩
          rw [hP]
          have HPD := hid hP
          have HH := hid (inR_iff.1 h2)
          clear hP h1 h2 h3 h4 hl hl' hl'' e0 g1 g2 g3 g4 g5
          go_enter Try.func42, Try.ntmps42
          go_wp2_with fail
          refine (i_canTree _ _ _ _ _ _ _ _ l ds _ (H.out.below (by go_grown)) (H'.out.below (by go_grown)) hn hm).mono ?_
          rintro e w1 ⟨rfl, hb1⟩
          rw [H1.out]
          obtain ⟨hc_w1, hf_w1⟩ := bcell hb1
          have hz_w1_0 : w.heap.size < w1.heap.size := by have := hb1.size; simp only [World.size_alloc] at this; omega
          have HB1 := hid (bstep (by go_grown) hb1 : Below w.heap.size w w1)
          go_wp2_with fail
          refine (i_isHead _ _).mono ?_
          rintro e _ ⟨rfl, rfl⟩
          rw [H2.out]
          go_wp2_with fail
          refine (i_areHeights _ _ _ _ _ _ _ hs0 _ (H''.out.below HB1.out) hr).mono ?_
          rintro e w2 ⟨rfl, hb2⟩
          rw [H3.out]
          obtain ⟨hc_w2, hf_w2⟩ := bcell hb2
          have hz_w2_0 : w.heap.size < w2.heap.size := by have := hb2.size; omega
          have HB2 := hid (bstep HB1.out hb2 : Below w.heap.size w w2)
          go_wp2_with fail
          refine (i_isHead _ _).mono ?_
          rintro e _ ⟨rfl, rfl⟩
          rw [H4.out]
          go_wp2_with fail
          refine (i_pressuresOf r s0 hd _ _ _ n _ _ _ l ds hs0 _ (H.out.below (bstep HB2.out (by go_grown))) (H'.out.below (bstep HB2.out (by go_grown))) (H''.out.below (bstep HB2.out (by go_grown))) HG.out HS.out HD.out HT.out HH.out HHT.out).mono ?_
          rintro e w3 ⟨a3, c3, rfl, ho3, hb3⟩
          obtain ⟨g3, rfl, hg31, hg32⟩ := own_some ho3 (by have := HN8.out; omega)
          simp only [World.size_alloc] at hg31 ho3
          have HO2 := hid (show OwnI (w2.alloc (.cells #[] 3)) w.heap.size (.slice (some ⟨w2.heap.size, 0, none⟩) 0 0) [] from (OwnI.lit0 w2).mono HB2.out.size)
          have hz4 := HB2.out.size
          rw [HPD.out] at ho3
          have hgw3 := ho3.lt _ rfl
          have HP := hid ho3
          have HB3 := hid (bstep HB2.out (by first | exact hb3 | exact bstep (by go_grown) hb3) : Below w.heap.size w w3)
          have HO := hid ((HO2.out.below hb3))
          clear ho3 hb3
          go_wp2
          go_loopg [14, 46] r (fun g o i wr => ∃ (k : Nat) (a' : Option Addr) (c' : Nat), k ≤ r ∧ g = r - k ∧ i = .int .i64 k ∧ o = .slice a' (weakL P need k).length c' ∧ Hid (OwnI wr w.heap.size (.slice a' (weakL P need k).length c') (weakL P need k) ∧ OwnI wr w.heap.size (.slice (some ⟨g3, 0, none⟩) r c3) P ∧ Below w.heap.size w wr ∧ Value.ownBlock (.slice a' (weakL P need k).length c') ≠ some g3))
          case atStart =>
            refine ⟨0, _, 0, Nat.zero_le _, rfl, rfl, rfl, hid ⟨HO.out, HP.out.mono (by have := HB2.out.size; omega), HB3.out, ?_⟩⟩
            simp [Value.ownBlock]
            omega
          case round =>
            obtain ⟨k, a', c', hk, rfl, rfl, rfl, hh⟩ := hrel
            have hlen := weakL_len P need k
            by_cases hlt : k < r
            · have hcell := hh.out.2.1.cell (k := k) hlt
              have hgw : g3 < wr.heap.size := (hh.out.2.1.lt _ rfl).2
              by_cases hp : P[k]?.getD 0 < need
              · have E := hid (weakL_yes (k := k) hp)
                have hw9 := IntWalk.i64_in ((k : Int) + 1) (by have := HN8.out; omega)
                go_wp2_with (at_builtin; refine wp_append_ints _ rfl _ _ rfl w.heap.size _ (weakL P need k) rfl (hh.out.1.alloc _) _ 1 1 [(k : Int) + 1] rfl (IntsAt.single _ _) ((weakL P need k).length + 1) (by simp) (by have := HN8.out; omega) (by have := hh.out.2.2.1.size; simp; omega) ?_)
                intro a2 c2 w5 hown hgrow hblk
                have hl2 : (weakL P need k).length + 1 = (weakL P need (k + 1)).length := by rw [E.out]; simp
                rw [hl2] at hown hblk ⊢
                have S2 := hid (show OwnI w5 w.heap.size (.slice a2 (weakL P need (k + 1)).length c2) (weakL P need (k + 1)) ∧ OwnI w5 w.heap.size (.slice (some ⟨g3, 0, none⟩) r c3) P ∧ Below w.heap.size w w5 ∧ Value.ownBlock (.slice a2 (weakL P need (k + 1)).length c2) ≠ some g3 from by
                  refine ⟨by rw [E.out] at hown ⊢; exact hown, (hh.out.2.1.alloc _).kept hgrow (.inr (fun e => hh.out.2.2.2 (by rw [← e]; rfl))), (bstep hh.out.2.2.1 (by go_grown)).grown hgrow (by have := hh.out.2.2.1.size; simp; omega) (fun q hq => (hh.out.1.lt q hq).1), ?_⟩
                  rcases hblk with e | e
                  · rw [e]; exact hh.out.2.2.2
                  · rw [e]; simp; omega)
                clear hown hgrow hblk hl2
                go_wp2
                go_roundg (r - (k + 1))
                case rel => exact ⟨k + 1, _, _, by omega, rfl, by go_num, rfl, S2⟩
                case measure => omega
              · have E := hid (weakL_no (k := k) hp)
                go_wp2
                go_roundg (r - (k + 1))
                case rel => exact ⟨k + 1, a', c', by omega, rfl, by go_num, by rw [E.out], hid (by rw [E.out]; exact hh.out)⟩
                case measure => omega
            · obtain rfl : k = r := by omega
              go_wp2
              go_ret2
              exact ⟨_, _, rfl, hh.out.1, hh.out.2.2.1⟩

set_option maxRecDepth 100000 in
set_option maxHeartbeats 2000000 in
theorem s_WeakNodes (N s hd need : Int) (a p q : Option Addr) (n c m d r e0 : Nat) (l : List Pip) (ds hs0 : List Int) (w : World) (h : QAt w a n l) (h' : IntsAt w p m ds) (h'' : IntsAt w q r hs0) (hn : n ≤ 1048576) (hm : m ≤ 1048576) (hr : r ≤ 1048576) (hc : n ≤ c) (R : List Int) (b : Bool) (hR : weakR N l s ds hd hs0 need = (R, b)) :
    Calls Try.prog 41 #[.agg #[.int .i64 N, .slice a n c], .int .i64 s, .slice p m d, .int .i64 hd, .slice q r e0, .int .i64 need] w fun e w' => ∃ a' c', e = .returned (.tuple #[.slice a' R.length c', .bool b]) ∧ OwnI w' w.heap.size (.slice a' R.length c') R ∧ Below w.heap.size w w' := by
  have hl := h.1
  have hl' := h'.1
  have hl'' := h''.1
  have H := hid h
  have H' := hid h'
  have H'' := hid h''
  clear h h' h''
  cases h0 : canT N l s ds && inR hd 0 100000000000
  · have e0 : weakR N l s ds hd hs0 need = ([], false) := by simp [weakR, h0]
    rw [e0] at hR
    cases hR
    have H0 := hid h0
    clear h0 hl hl' hl''
    go_enter Try.func41, Try.ntmps41
    go_wp2_with fail
    refine (s_l9Asked _ _ _ _ _ _ _ _ _ l ds _ (H.out.below (by go_grown)) (H'.out.below (by go_grown)) hn hm).mono ?_
    rintro e w1 ⟨rfl, hb1⟩
    rw [H0.out]
    obtain ⟨hc_w1, hf_w1⟩ := bcell hb1
    have hz_w1_0 : w.heap.size < w1.heap.size := by have := hb1.size; simp only [World.size_alloc] at this; omega
    have HB1 := hid (bstep (by go_grown) hb1 : Below w.heap.size w w1)
    have HO1 := hid ((OwnI.lit0 (w.alloc (.cells #[.int .i64 N, .slice a n c] 31))).below hb1)
    simp only [World.size_alloc] at HO1
    go_wp2
    go_ret2
    exact ⟨_, _, rfl, HO1.out.mono (by omega), HB1.out⟩
  · have H0 := hid h0
    cases h3 : goodHt N hs0
    · have e0 : weakR N l s ds hd hs0 need = ([], false) := by simp [weakR, h3]
      rw [e0] at hR
      cases hR
      have H3 := hid h3
      clear h0 h3 hl hl' hl''
      go_enter Try.func41, Try.ntmps41
      go_wp2_with fail
      refine (s_l9Asked _ _ _ _ _ _ _ _ _ l ds _ (H.out.below (by go_grown)) (H'.out.below (by go_grown)) hn hm).mono ?_
      rintro e w1 ⟨rfl, hb1⟩
      rw [H0.out]
      obtain ⟨hc_w1, hf_w1⟩ := bcell hb1
      have hz_w1_0 : w.heap.size < w1.heap.size := by have := hb1.size; simp only [World.size_alloc] at this; omega
      have HB1 := hid (bstep (by go_grown) hb1 : Below w.heap.size w w1)
      have HO1 := hid ((OwnI.lit0 (w.alloc (.cells #[.int .i64 N, .slice a n c] 31))).below hb1)
      simp only [World.size_alloc] at HO1
      go_wp2_with fail
      refine (s_l9Heights _ _ _ _ _ _ _ hs0 _ (H''.out.below HB1.out) hr).mono ?_
      rintro e w2 ⟨rfl, hb2⟩
      rw [H3.out]
      obtain ⟨hc_w2, hf_w2⟩ := bcell hb2
      have hz_w2_0 : w.heap.size < w2.heap.size := by have := hb2.size; omega
      have HB2 := hid (bstep HB1.out hb2 : Below w.heap.size w w2)
      go_wp2
      go_ret2
      exact ⟨_, _, rfl, (HO1.out.below hb2).mono (by omega), HB2.out⟩
    · have H3 := hid h3
      cases h4 : inR need 0 100000000000
      · have e0 : weakR N l s ds hd hs0 need = ([], false) := by simp [weakR, h4]
        rw [e0] at hR
        cases hR
        have H4 := hid h4
        clear h0 h3 h4 hl hl' hl''
        go_enter Try.func41, Try.ntmps41
        go_wp2_with fail
        refine (s_l9Asked _ _ _ _ _ _ _ _ _ l ds _ (H.out.below (by go_grown)) (H'.out.below (by go_grown)) hn hm).mono ?_
        rintro e w1 ⟨rfl, hb1⟩
        rw [H0.out]
        obtain ⟨hc_w1, hf_w1⟩ := bcell hb1
        have hz_w1_0 : w.heap.size < w1.heap.size := by have := hb1.size; simp only [World.size_alloc] at this; omega
        have HB1 := hid (bstep (by go_grown) hb1 : Below w.heap.size w w1)
        have HO1 := hid ((OwnI.lit0 (w.alloc (.cells #[.int .i64 N, .slice a n c] 31))).below hb1)
        simp only [World.size_alloc] at HO1
        go_wp2_with fail
        refine (s_l9Heights _ _ _ _ _ _ _ hs0 _ (H''.out.below HB1.out) hr).mono ?_
        rintro e w2 ⟨rfl, hb2⟩
        rw [H3.out]
        obtain ⟨hc_w2, hf_w2⟩ := bcell hb2
        have hz_w2_0 : w.heap.size < w2.heap.size := by have := hb2.size; omega
        have HB2 := hid (bstep HB1.out hb2 : Below w.heap.size w w2)
        go_wp2_with fail
        refine (s_l9Head _ _).mono ?_
        rintro e _ ⟨rfl, rfl⟩
        rw [H4.out]
        go_wp2
        go_ret2
        exact ⟨_, _, rfl, (HO1.out.below hb2).mono (by omega), HB2.out⟩
      · have H4 := hid h4
        obtain ⟨h1, h2⟩ := (Bool.and_eq_true _ _).mp h0
        obtain ⟨g1, g2, g3, g4⟩ := canT_iff h1
        have g5 := goodHt_iff.1 h3
        have hN := (goodNet_get g1).1
        obtain ⟨M, rfl⟩ : ∃ M : Nat, N = M := ⟨N.toNat, by omega⟩
        have hmM : m = M := by omega
        subst hmM
        have hrM : r = m := by omega
        subst hrM
        obtain ⟨s0, rfl⟩ : ∃ s0 : Nat, s = s0 := ⟨s.toNat, by omega⟩
        have HG := hid g1
        have HS := hid (show 1 ≤ s0 ∧ s0 ≤ r by omega)
        have HD := hid g3.2
        have HT := hid g4
        have HHT := hid g5.2
        have HN8 := hid (show 1 ≤ r ∧ r ≤ 8 by omega)
        have e0 : weakR r l s0 ds hd hs0 need = (weakL (prs (headL l (tflows r l s0 ds n) s0 hd r) hs0 r) need r, true) := by
          unfold weakR
          rw [if_pos ⟨⟨by simp [h1, h2], h3⟩, h4⟩, hl]
          simp
        rw [e0] at hR
        cases hR
        obtain ⟨P, hP⟩ : ∃ P, prs (headL l (tflows r l s0 ds n) s0 hd r) hs0 r = P := ⟨_, rfl⟩
        rw [hP]
        have HPD := hid hP
        have HH := hid (inR_iff.1 h2)
        clear hP h0 h1 h2 h3 h4 hl hl' hl'' e0 g1 g2 g3 g4 g5
        go_enter Try.func41, Try.ntmps41
        go_wp2_with fail
        refine (s_l9Asked _ _ _ _ _ _ _ _ _ l ds _ (H.out.below (by go_grown)) (H'.out.below (by go_grown)) hn hm).mono ?_
        rintro e w1 ⟨rfl, hb1⟩
        rw [H0.out]
        obtain ⟨hc_w1, hf_w1⟩ := bcell hb1
        have hz_w1_0 : w.heap.size < w1.heap.size := by have := hb1.size; simp only [World.size_alloc] at this; omega
        have HB1 := hid (bstep (by go_grown) hb1 : Below w.heap.size w w1)
        have HO1 := hid ((OwnI.lit0 (w.alloc (.cells #[.int .i64 r, .slice a n c] 31))).below hb1)
        simp only [World.size_alloc] at HO1
        go_wp2_with fail
        refine (s_l9Heights _ _ _ _ _ _ _ hs0 _ (H''.out.below HB1.out) hr).mono ?_
        rintro e w2 ⟨rfl, hb2⟩
        rw [H3.out]
        obtain ⟨hc_w2, hf_w2⟩ := bcell hb2
        have hz_w2_0 : w.heap.size < w2.heap.size := by have := hb2.size; omega
        have HB2 := hid (bstep HB1.out hb2 : Below w.heap.size w w2)
        go_wp2_with fail
        refine (s_l9Head _ _).mono ?_
        rintro e _ ⟨rfl, rfl⟩
        rw [H4.out]
        go_wp2_with fail
        refine (s_l9Pressures r s0 hd _ _ _ n _ _ _ l ds hs0 _ (H.out.below HB2.out) (H'.out.below HB2.out) (H''.out.below HB2.out) HG.out HS.out HD.out HT.out hc HH.out HHT.out).mono ?_
        rintro e w3 ⟨a3, c3, rfl, ho3, hb3⟩
        obtain ⟨g3, rfl, hg31, hg32⟩ := own_some ho3 (by have := HN8.out; omega)
        have HO2 := hid ((HO1.out.below hb2).mono (B' := w.heap.size) (by omega))
        have hz4 := HB2.out.size
        have hz5 := hb1.size
        simp only [World.size_alloc] at hz5
        have hz6 := hb2.size
        rw [HPD.out] at ho3
        have hgw3 := ho3.lt _ rfl
        have HP := hid ho3
        have HB3 := hid (bstep HB2.out (by first | exact hb3 | exact bstep (by go_grown) hb3) : Below w.heap.size w w3)
        have HO := hid ((HO2.out.below hb3))
        clear ho3 hb3
        go_wp2
        go_loopg [14, 16] r (fun g o i wr => ∃ (k : Nat) (a' : Option Addr) (c' : Nat), k ≤ r ∧ g = r - k ∧ i = .int .i64 k ∧ o = .slice a' (weakL P need k).length c' ∧ Hid (OwnI wr w.heap.size (.slice a' (weakL P need k).length c') (weakL P need k) ∧ OwnI wr w.heap.size (.slice (some ⟨g3, 0, none⟩) r c3) P ∧ Below w.heap.size w wr ∧ Value.ownBlock (.slice a' (weakL P need k).length c') ≠ some g3))
        case atStart =>
          refine ⟨0, _, 0, Nat.zero_le _, rfl, rfl, rfl, hid ⟨HO.out, HP.out.mono (by have := HB2.out.size; omega), HB3.out, ?_⟩⟩
          simp [Value.ownBlock]
          omega
        case round =>
          obtain ⟨k, a', c', hk, rfl, rfl, rfl, hh⟩ := hrel
          have hlen := weakL_len P need k
          by_cases hlt : k < r
          · have hcell := hh.out.2.1.cell (k := k) hlt
            have hgw : g3 < wr.heap.size := (hh.out.2.1.lt _ rfl).2
            by_cases hp : P[k]?.getD 0 < need
            · have E := hid (weakL_yes (k := k) hp)
              have hw9 := IntWalk.i64_in ((k : Int) + 1) (by have := HN8.out; omega)
              go_wp2_with (at_builtin; refine wp_append_ints _ rfl _ _ rfl w.heap.size _ (weakL P need k) rfl (hh.out.1.alloc _) _ 1 1 [(k : Int) + 1] rfl (IntsAt.single _ _) ((weakL P need k).length + 1) (by simp) (by have := HN8.out; omega) (by have := hh.out.2.2.1.size; simp; omega) ?_)
              intro a2 c2 w5 hown hgrow hblk
              have hl2 : (weakL P need k).length + 1 = (weakL P need (k + 1)).length := by rw [E.out]; simp
              rw [hl2] at hown hblk ⊢
              have S2 := hid (show OwnI w5 w.heap.size (.slice a2 (weakL P need (k + 1)).length c2) (weakL P need (k + 1)) ∧ OwnI w5 w.heap.size (.slice (some ⟨g3, 0, none⟩) r c3) P ∧ Below w.heap.size w w5 ∧ Value.ownBlock (.slice a2 (weakL P need (k + 1)).length c2) ≠ some g3 from by
                refine ⟨by rw [E.out] at hown ⊢; exact hown, (hh.out.2.1.alloc _).kept hgrow (.inr (fun e => hh.out.2.2.2 (by rw [← e]; rfl))), (bstep hh.out.2.2.1 (by go_grown)).grown hgrow (by have := hh.out.2.2.1.size; simp; omega) (fun q hq => (hh.out.1.lt q hq).1), ?_⟩
                rcases hblk with e | e
                · rw [e]; exact hh.out.2.2.2
                · rw [e]; simp; omega)
              clear hown hgrow hblk hl2
              go_wp2
              go_roundg (r - (k + 1))
              case rel => exact ⟨k + 1, _, _, by omega, rfl, by go_num, rfl, S2⟩
              case measure => omega
            · have E := hid (weakL_no (k := k) hp)
              go_wp2
              go_roundg (r - (k + 1))
              case rel => exact ⟨k + 1, a', c', by omega, rfl, by go_num, by rw [E.out], hid (by rw [E.out]; exact hh.out)⟩
              case measure => omega
          · obtain rfl : k = r := by omega
            go_wp2
            go_ret2
            exact ⟨_, _, rfl, hh.out.1, hh.out.2.2.1⟩

end Go.Proofs.Ythhogblnndmenaa
