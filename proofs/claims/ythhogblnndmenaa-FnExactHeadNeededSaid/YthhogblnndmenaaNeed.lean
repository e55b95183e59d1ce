/-
  HeadNeeded, in the program and in the reference.
-/
import Derived.Test.YthhogblnndmenaaPressF
set_option linter.unusedVariables false
set_option linter.unusedSimpArgs false
namespace Go.Proofs.Ythhogblnndmenaa
open Go.RowKit

theorem f_Min (a : Option Addr) (n c : Nat) (l : List Int) (w : World) (h : IntsAt w a n l) (hn1 : 1 ≤ n) (hn : n ≤ 4194304) :
    Calls Try.prog 87 #[.slice a n c] w fun e w' => (∃ r, e = .returned (.int .i64 r) ∧ r ∈ l ∧ ∀ x ∈ l, r ≤ x) ∧ w = w' := by
  have hl := h.1
  obtain ⟨b0, off0, rfl, hbw0, hcell0⟩ := h.2 0 (by omega)
  simp only [Nat.add_zero] at hcell0
  have H := hid h
  have HL := hid hl
  clear h hl
  go_enter Try.func87, Try.ntmps87
  go_wp2
  go_loopg [3, 4] (n - 1) (fun g m i wr => ∃ (k : Nat) (r : Int), 1 ≤ k ∧ k ≤ n ∧ g = n - k ∧ i = .int .i64 k ∧ m = .int .i64 r ∧ w = wr ∧ Hid (r ∈ l.take k ∧ ∀ x ∈ l.take k, r ≤ x))
  case atStart =>
    have e : l.take 1 = [l[0]?.getD 0] := by rw [take_succ' l 0 (by have := HL.out; omega)]; simp
    exact ⟨1, _, by omega, hn1, rfl, rfl, rfl, rfl, by rw [e]; simp, by rw [e]; intro x hx; simp at hx; omega⟩
  case round =>
    obtain ⟨k, r, hk1, hk, rfl, rfl, rfl, rfl, hh⟩ := hrel
    by_cases hlt : k < n
    · obtain ⟨_, _, e1, hbw, hcell⟩ := H.out.2 k hlt
      cases e1
      have HN : Hid (min r (l[k]?.getD 0) ∈ l.take (k + 1) ∧ ∀ x ∈ l.take (k + 1), (fun r => r ≤ x) (min r (l[k]?.getD 0))) := by
        rw [take_succ' l k (by have := HL.out; omega)]
        refine ⟨?_, ?_⟩
        · rw [List.mem_append, List.mem_singleton]
          by_cases hle : min r (l[k]?.getD 0) = r
          · exact .inl (by rw [hle]; exact hh.out.1)
          · exact .inr (by omega)
        · intro x hx
          rw [List.mem_append, List.mem_singleton] at hx
          rcases hx with hx | rfl
          · have := hh.out.2 x hx
            show _ ≤ _
            omega
          · show _ ≤ _
            omega
      go_wp2
      all_goals go_roundg (n - (k + 1))
      all_goals first
        | omega
        | (refine ⟨k + 1, min r (l[k]?.getD 0), by omega, by omega, rfl, by go_num, ?_, rfl, HN⟩; first | rfl | (congr 1; omega))
    · obtain rfl : k = n := by omega
      go_wp2
      go_ret
      have e := hh.out
      rw [List.take_of_length_le (by have := HL.out; omega)] at e
      exact ⟨⟨r, rfl, e.1, e.2⟩, rfl⟩

/-- The greatest lack at the first nodes, and zero. -/
def needTo (L : List Int) (d : Int) : Nat → Int
  | 0 => 0
  | k + 1 => max (needTo L d k) (d - L[k]?.getD 0)
theorem needTo_ub (L : List Int) (d : Int) : ∀ k j, j < k → d - L[j]?.getD 0 ≤ needTo L d k
  | 0, j, h => by omega
  | k + 1, j, h => by
    unfold needTo
    by_cases e : j = k
    · subst e; omega
    · have := needTo_ub L d k j (by omega)
      omega
theorem needTo_zero (L : List Int) (d : Int) : ∀ k, 0 ≤ needTo L d k
  | 0 => by simp [needTo]
  | k + 1 => by have := needTo_zero L d k; unfold needTo; omega
theorem needTo_is (L : List Int) (d : Int) : ∀ k, needTo L d k = 0 ∨ ∃ j, j < k ∧ needTo L d k = d - L[j]?.getD 0
  | 0 => .inl rfl
  | k + 1 => by
    unfold needTo
    by_cases e : needTo L d k ≤ d - L[k]?.getD 0
    · exact .inr ⟨k, by omega, by omega⟩
    · rcases needTo_is L d k with h | ⟨j, hj, h⟩
      · exact .inl (by omega)
      · exact .inr ⟨j, by omega, by omega⟩
theorem needTo_min {L : List Int} {d r : Int} {M : Nat} (hl : L.length = M) (h1 : r ∈ L) (h2 : ∀ x ∈ L, r ≤ x) : max (d - r) 0 = needTo L d M := by
  obtain ⟨j, hj, rfl⟩ := List.mem_iff_getElem.1 h1
  have a := needTo_ub L d M j (by omega)
  rw [List.getElem?_eq_getElem hj, Option.getD_some] at a
  have z := needTo_zero L d M
  rcases needTo_is L d M with e | ⟨i, hi, e⟩
  · omega
  · have := h2 _ (getD_mem L i (by omega))
    omega
theorem prs_fit {L hs : List Int} (hL : ∀ k : Nat, -4608000000 ≤ L[k]?.getD 0 ∧ L[k]?.getD 0 ≤ 104608000000) (hh : ∀ x ∈ hs, 0 ≤ x ∧ x ≤ 100000000000) : ∀ k j : Nat, -104608000000 ≤ (prs L hs k)[j]?.getD 0 ∧ (prs L hs k)[j]?.getD 0 ≤ 104608000000
  | 0, j => by have := hL j; unfold prs; omega
  | k + 1, j => by
    have ih := prs_fit hL hh k j
    unfold prs
    rw [List.getElem?_set]
    split
    · split
      · have a := hL k
        have b : 0 ≤ hs[k]?.getD 0 ∧ hs[k]?.getD 0 ≤ 100000000000 := by
          by_cases hk : k < hs.length
          · exact hh _ (getD_mem hs k hk)
          · rw [List.getElem?_eq_none (by omega)]; decide
        simp only [Option.getD_some]
        omega
      · decide
    · exact ih

/-- What HeadNeeded returns. -/
noncomputable def needR (N : Int) (l : List Pip) (s : Int) (ds hs : List Int) (need : Int) : Int × Bool := if (canT N l s ds = true ∧ goodHt N hs = true) ∧ inR need 0 100000000000 = true then (if inR (needTo (prs (headL l (tflows N.toNat l s ds l.length) s 0 N.toNat) hs N.toNat) need N.toNat) 0 100000000000 = true then (needTo (prs (headL l (tflows N.toNat l s ds l.length) s 0 N.toNat) hs N.toNat) need N.toNat, true) else (0, false)) else (0, false)

set_option maxRecDepth 100000 in
set_option maxHeartbeats 2000000 in
theorem i_HeadNeeded (N s need : Int) (a p q : Option Addr) (n c m d r e0 : Nat) (l : List Pip) (ds hs0 : List Int) (w : World) (h : QAt w a n l) (h' : IntsAt w p m ds) (h'' : IntsAt w q r hs0) (hn : n ≤ 1048576) (hm : m ≤ 1048576) (hr : r ≤ 1048576) (x : Int) (b : Bool) (hR : needR N l s ds hs0 need = (x, b)) :
    Calls Try.prog 38 #[.agg #[.int .i64 N, .slice a n c], .int .i64 s, .slice p m d, .slice q r e0, .int .i64 need] w fun e w' => e = .returned (.tuple #[.int .i64 x, .bool b]) ∧ Below w.heap.size w w' := by
  have hl := h.1
  have hl' := h'.1
  have hl'' := h''.1
  have H := hid h
  have H' := hid h'
  have H'' := hid h''
  clear h h' h''
  cases h1 : canT N l s ds
  · have e0 : needR N l s ds hs0 need = (0, false) := by simp [needR, h1]
    rw [e0] at hR
    cases hR
    have H1 := hid h1
    clear h1 hl hl' hl''
    go_enter Try.func38, Try.ntmps38
    go_wp2_with fail
    refine (i_canTree _ _ _ _ _ _ _ _ l ds _ (H.out.below (by go_grown)) (H'.out.below (by go_grown)) hn hm).mono ?_
    rintro e w1 ⟨rfl, hb1⟩
    rw [H1.out]
    obtain ⟨hc_w1, hf_w1⟩ := bcell hb1
    have hz_w1_0 : w.heap.size < w1.heap.size := by have := hb1.size; simp only [World.size_alloc] at this; omega
    have HB1 := hid (bstep (by go_grown) hb1 : Below w.heap.size w w1)
    go_wp2
    go_ret2
    exact ⟨rfl, HB1.out⟩
  · have H1 := hid h1
    cases h3 : goodHt N hs0
    · have e0 : needR N l s ds hs0 need = (0, false) := by simp [needR, h3]
      rw [e0] at hR
      cases hR
      have H3 := hid h3
      clear h1 h3 hl hl' hl''
      go_enter Try.func38, Try.ntmps38
      go_wp2_with fail
      refine (i_canTree _ _ _ _ _ _ _ _ l ds _ (H.out.below (by go_grown)) (H'.out.below (by go_grown)) hn hm).mono ?_
      rintro e w1 ⟨rfl, hb1⟩
      rw [H1.out]
      obtain ⟨hc_w1, hf_w1⟩ := bcell hb1
      have hz_w1_0 : w.heap.size < w1.heap.size := by have := hb1.size; simp only [World.size_alloc] at this; omega
      have HB1 := hid (bstep (by go_grown) hb1 : Below w.heap.size w w1)
      go_wp2_with fail
      refine (i_areHeights _ _ _ _ _ _ _ hs0 _ (H''.out.below HB1.out) hr).mono ?_
      rintro e w2 ⟨rfl, hb2⟩
      rw [H3.out]
      obtain ⟨hc_w2, hf_w2⟩ := bcell hb2
      have hz_w2_0 : w.heap.size < w2.heap.size := by have := hb2.size; omega
      have HB2 := hid (bstep HB1.out hb2 : Below w.heap.size w w2)
      go_wp2
      go_ret2
      exact ⟨rfl, HB2.out⟩
    · have H3 := hid h3
      cases h4 : inR need 0 100000000000
      · have e0 : needR N l s ds hs0 need = (0, false) := by simp [needR, h4]
        rw [e0] at hR
        cases hR
        have H4 := hid h4
        clear h1 h3 h4 hl hl' hl''
        go_enter Try.func38, Try.ntmps38
        go_wp2_with fail
        refine (i_canTree _ _ _ _ _ _ _ _ l ds _ (H.out.below (by go_grown)) (H'.out.below (by go_grown)) hn hm).mono ?_
        rintro e w1 ⟨rfl, hb1⟩
        rw [H1.out]
        obtain ⟨hc_w1, hf_w1⟩ := bcell hb1
        have hz_w1_0 : w.heap.size < w1.heap.size := by have := hb1.size; simp only [World.size_alloc] at this; omega
        have HB1 := hid (bstep (by go_grown) hb1 : Below w.heap.size w w1)
        go_wp2_with fail
        refine (i_areHeights _ _ _ _ _ _ _ hs0 _ (H''.out.below HB1.out) hr).mono ?_
        rintro e w2 ⟨rfl, hb2⟩
        rw [H3.out]
        obtain ⟨hc_w2, hf_w2⟩ := bcell hb2
        have hz_w2_0 : w.heap.size < w2.heap.size := by have := hb2.size; omega
        have HB2 := hid (bstep HB1.out hb2 : Below w.heap.size w w2)
        go_wp2_with fail
        refine (i_isHead _ _).mono ?_
        rintro e _ ⟨rfl, rfl⟩
        rw [H4.out]
        go_wp2
        go_ret2
        exact ⟨rfl, HB2.out⟩
      · have H4 := hid h4
        obtain ⟨g1, g2, g3, g4⟩ := canT_iff h1
        have g5 := goodHt_iff.1 h3
        have hN := (goodNet_get g1).1
        obtain ⟨M, rfl⟩ : ∃ M : Nat, N = M := ⟨N.toNat, by omega⟩
        have hmM : m = M := by omega
        subst hmM
        have hrM : r = m := by omega
        subst hrM
        obtain ⟨s0, rfl⟩ : ∃ s0 : Nat, s = s0 := ⟨s.toNat, by omega⟩
        have HG := hid g1
        have HS := hid (show 1 ≤ s0 ∧ s0 ≤ r by omega)
        have HD := hid g3.2
        have HT := hid g4
        have HHT := hid g5.2
        have HN8 := hid (show 1 ≤ r ∧ r ≤ 8 by omega)
        obtain ⟨P, hP⟩ : ∃ P, prs (headL l (tflows r l s0 ds n) s0 0 r) hs0 r = P := ⟨_, rfl⟩
        have e0 : needR r l s0 ds hs0 need = if inR (needTo P need r) 0 100000000000 = true then (needTo P need r, true) else (0, false) := by
          unfold needR
          rw [if_pos ⟨⟨h1, h3⟩, h4⟩, hl, ← hP]
          simp
        have HPD := hid hP
        have HPL := hid (show P.length = r from by rw [← hP, prs_len, headL_len])
        have hfit := prs_fit (L := headL l (tflows r l s0 ds n) s0 0 r) (hs := hs0) (fun k => by
          by_cases hk : k < r
          · exact headL_fit g1 (by rw [hl]; exact tflows_good (by omega) hl' g3.2) (show 1 ≤ (s0 : Int) ∧ (s0 : Int) ≤ r by omega) (by decide) k hk
          · rw [List.getElem?_eq_none (by rw [headL_len]; omega)]; decide) g5.2 r
        rw [hP] at hfit
        have HF := hid hfit
        have h5 := inR_iff.1 h4
        have HND := hid h5
        have HE := hid e0
        clear hP h1 h3 h4 h5 hl hl' hl'' e0 g1 g2 g3 g4 g5 hfit
        rw [HE.out] at hR
        cases h6 : inR (needTo P need r) 0 100000000000
        · rw [h6] at hR
          rw [if_neg (by simp)] at hR
          cases hR
          have H6 := hid h6
          clear h6
          go_enter Try.func38, Try.ntmps38
          go_wp2_with fail
          refine (i_canTree _ _ _ _ _ _ _ _ l ds _ (H.out.below (by go_grown)) (H'.out.below (by go_grown)) hn hm).mono ?_
          rintro e w1 ⟨rfl, hb1⟩
          rw [H1.out]
          obtain ⟨hc_w1, hf_w1⟩ := bcell hb1
          have hz_w1_0 : w.heap.size < w1.heap.size := by have := hb1.size; simp only [World.size_alloc] at this; omega
          have HB1 := hid (bstep (by go_grown) hb1 : Below w.heap.size w w1)
          go_wp2_with fail
          refine (i_areHeights _ _ _ _ _ _ _ hs0 _ (H''.out.below HB1.out) hr).mono ?_
          rintro e w2 ⟨rfl, hb2⟩
          rw [H3.out]
          obtain ⟨hc_w2, hf_w2⟩ := bcell hb2
          have hz_w2_0 : w.heap.size < w2.heap.size := by have := hb2.size; omega
          have HB2 := hid (bstep HB1.out hb2 : Below w.heap.size w w2)
          go_wp2_with fail
          refine (i_isHead _ _).mono ?_
          rintro e _ ⟨rfl, rfl⟩
          rw [H4.out]
          go_wp2_with fail
          refine (i_pressuresOf r s0 0 _ _ _ n _ _ _ l ds hs0 _ (H.out.below HB2.out) (H'.out.below HB2.out) (H''.out.below HB2.out) HG.out HS.out HD.out HT.out (by decide) HHT.out).mono ?_
          rintro e w3 ⟨a3, c3, rfl, ho3, hb3⟩
          rw [HPD.out] at ho3
          have HB3 := hid (bstep HB2.out hb3)
          have HO := hid ho3
          clear ho3 hb3
          go_wp2_with fail
          refine (f_Min _ _ _ P _ HO.out.at (by have := HN8.out; omega) (by have := HN8.out; omega)).mono ?_
          rintro e _ ⟨⟨z, rfl, hz1, hz2⟩, rfl⟩
          have hzb : -104608000000 ≤ z ∧ z ≤ 104608000000 := by
            obtain ⟨j, hj, rfl⟩ := List.mem_iff_getElem.1 hz1
            have := HF.out j
            rw [List.getElem?_eq_getElem hj, Option.getD_some] at this
            exact this
          have hmax := needTo_min (d := need) HPL.out hz1 hz2
          have HMX := hid hmax
          clear hz1 hz2 hmax
          have hw9 := IntWalk.i64_in (need - z) (by have := HND.out; omega)
          go_wp2_with fail
          · have hmz := HMX.out
            have HZ := hid (show inR 0 0 100000000000 = false from by have e := H6.out; rw [← HMX.out, show max (need - z) 0 = 0 by omega] at e; exact e)
            refine (i_isHead _ _).mono ?_
            rintro e _ ⟨rfl, rfl⟩
            rw [HZ.out]
            go_wp2
            go_ret2
            exact ⟨rfl, HB3.out⟩
          · have hmz := HMX.out
            have HZ := hid (show inR (need - z) 0 100000000000 = false from by have e := H6.out; rw [← HMX.out, show max (need - z) 0 = need - z by omega] at e; exact e)
            refine (i_isHead _ _).mono ?_
            rintro e _ ⟨rfl, rfl⟩
            rw [HZ.out]
            go_wp2
            go_ret2
            exact ⟨rfl, HB3.out⟩
        · rw [h6] at hR
          rw [if_pos rfl] at hR
          cases hR
          have H6 := hid h6
          clear h6
          go_enter Try.func38, Try.ntmps38
          go_wp2_with fail
          refine (i_canTree _ _ _ _ _ _ _ _ l ds _ (H.out.below (by go_grown)) (H'.out.below (by go_grown)) hn hm).mono ?_
          rintro e w1 ⟨rfl, hb1⟩
          rw [H1.out]
          obtain ⟨hc_w1, hf_w1⟩ := bcell hb1
          have hz_w1_0 : w.heap.size < w1.heap.size := by have := hb1.size; simp only [World.size_alloc] at this; omega
          have HB1 := hid (bstep (by go_grown) hb1 : Below w.heap.size w w1)
          go_wp2_with fail
          refine (i_areHeights _ _ _ _ _ _ _ hs0 _ (H''.out.below HB1.out) hr).mono ?_
          rintro e w2 ⟨rfl, hb2⟩
          rw [H3.out]
          obtain ⟨hc_w2, hf_w2⟩ := bcell hb2
          have hz_w2_0 : w.heap.size < w2.heap.size := by have := hb2.size; omega
          have HB2 := hid (bstep HB1.out hb2 : Below w.heap.size w w2)
          go_wp2_with fail
          refine (i_isHead _ _).mono ?_
          rintro e _ ⟨rfl, rfl⟩
          rw [H4.out]
          go_wp2_with fail
          refine (i_pressuresOf r s0 0 _ _ _ n _ _ _ l ds hs0 _ (H.out.below HB2.out) (H'.out.below HB2.out) (H''.out.below HB2.out) HG.out HS.out HD.out HT.out (by decide) HHT.out).mono ?_
          rintro e w3 ⟨a3, c3, rfl, ho3, hb3⟩
          rw [HPD.out] at ho3
          have HB3 := hid (bstep HB2.out hb3)
          have HO := hid ho3
          clear ho3 hb3
          go_wp2_with fail
          refine (f_Min _ _ _ P _ HO.out.at (by have := HN8.out; omega) (by have := HN8.out; omega)).mono ?_
          rintro e _ ⟨⟨z, rfl, hz1, hz2⟩, rfl⟩
          have hzb : -104608000000 ≤ z ∧ z ≤ 104608000000 := by
            obtain ⟨j, hj, rfl⟩ := List.mem_iff_getElem.1 hz1
            have := HF.out j
            rw [List.getElem?_eq_getElem hj, Option.getD_some] at this
            exact this
          have hmax := needTo_min (d := need) HPL.out hz1 hz2
          have HMX := hid hmax
          clear hz1 hz2 hmax
          have hw9 := IntWalk.i64_in (need - z) (by have := HND.out; omega)
          go_wp2_with fail
          · have hmz := HMX.out
            have HZ := hid (show inR 0 0 100000000000 = true from by have e := H6.out; rw [← HMX.out, show max (need - z) 0 = 0 by omega] at e; exact e)
            refine (i_isHead _ _).mono ?_
            rintro e _ ⟨rfl, rfl⟩
            rw [HZ.out]
            go_wp2
            go_ret2
            exact ⟨by rw [show needTo P need r = 0 by omega]; rfl, HB3.out⟩
          · have hmz := HMX.out
            have HZ := hid (show inR (need - z) 0 100000000000 = true from by have e := H6.out; rw [← HMX.out, show max (need - z) 0 = need - z by omega] at e; exact e)
            refine (i_isHead _ _).mono ?_
            rintro e _ ⟨rfl, rfl⟩
            rw [HZ.out]
            go_wp2
            go_ret2
            exact ⟨by rw [show needTo P need r = need - z by omega]; rfl, HB3.out⟩

set_option maxRecDepth 100000 in
set_option maxHeartbeats 2000000 in
theorem s_HeadNeeded (N s need : Int) (a p q : Option Addr) (n c m d r e0 : Nat) (l : List Pip) (ds hs0 : List Int) (w : World) (h : QAt w a n l) (h' : IntsAt w p m ds) (h'' : IntsAt w q r hs0) (hn : n ≤ 1048576) (hm : m ≤ 1048576) (hr : r ≤ 1048576) (hc : n ≤ c) (x : Int) (b : Bool) (hR : needR N l s ds hs0 need = (x, b)) :
    Calls Try.prog 37 #[.agg #[.int .i64 N, .slice a n c], .int .i64 s, .slice p m d, .slice q r e0, .int .i64 need] w fun e w' => e = .returned (.tuple #[.int .i64 x, .bool b]) ∧ Below w.heap.size w w' := by
  have hl := h.1
  have hl' := h'.1
  have hl'' := h''.1
  have H := hid h
  have H' := hid h'
  have H'' := hid h''
  clear h h' h''
  cases h1 : canT N l s ds
  · have e0 : needR N l s ds hs0 need = (0, false) := by simp [needR, h1]
    rw [e0] at hR
    cases hR
    have H1 := hid h1
    clear h1 hl hl' hl''
    go_enter Try.func37, Try.ntmps37
    go_wp2_with fail
    refine (s_l9Asked _ _ _ _ _ _ _ _ _ l ds _ (H.out.below (by go_grown)) (H'.out.below (by go_grown)) hn hm).mono ?_
    rintro e w1 ⟨rfl, hb1⟩
    rw [H1.out, show inR 0 0 100000000000 = true by decide]
    obtain ⟨hc_w1, hf_w1⟩ := bcell hb1
    have hz_w1_0 : w.heap.size < w1.heap.size := by have := hb1.size; simp only [World.size_alloc] at this; omega
    have HB1 := hid (bstep (by go_grown) hb1 : Below w.heap.size w w1)
    go_wp2
    go_ret2
    exact ⟨rfl, HB1.out⟩
  · have H1 := hid h1
    cases h3 : goodHt N hs0
    · have e0 : needR N l s ds hs0 need = (0, false) := by simp [needR, h3]
      rw [e0] at hR
      cases hR
      have H3 := hid h3
      clear h1 h3 hl hl' hl''
      go_enter Try.func37, Try.ntmps37
      go_wp2_with fail
      refine (s_l9Asked _ _ _ _ _ _ _ _ _ l ds _ (H.out.below (by go_grown)) (H'.out.below (by go_grown)) hn hm).mono ?_
      rintro e w1 ⟨rfl, hb1⟩
      rw [H1.out, show inR 0 0 100000000000 = true by decide]
      obtain ⟨hc_w1, hf_w1⟩ := bcell hb1
      have hz_w1_0 : w.heap.size < w1.heap.size := by have := hb1.size; simp only [World.size_alloc] at this; omega
      have HB1 := hid (bstep (by go_grown) hb1 : Below w.heap.size w w1)
      go_wp2_with fail
      refine (s_l9Heights _ _ _ _ _ _ _ hs0 _ (H''.out.below HB1.out) hr).mono ?_
      rintro e w2 ⟨rfl, hb2⟩
      rw [H3.out]
      obtain ⟨hc_w2, hf_w2⟩ := bcell hb2
      have hz_w2_0 : w.heap.size < w2.heap.size := by have := hb2.size; omega
      have HB2 := hid (bstep HB1.out hb2 : Below w.heap.size w w2)
      go_wp2
      go_ret2
      exact ⟨rfl, HB2.out⟩
    · have H3 := hid h3
      cases h4 : inR need 0 100000000000
      · have e0 : needR N l s ds hs0 need = (0, false) := by simp [needR, h4]
        rw [e0] at hR
        cases hR
        have H4 := hid h4
        clear h1 h3 h4 hl hl' hl''
        go_enter Try.func37, Try.ntmps37
        go_wp2_with fail
        refine (s_l9Asked _ _ _ _ _ _ _ _ _ l ds _ (H.out.below (by go_grown)) (H'.out.below (by go_grown)) hn hm).mono ?_
        rintro e w1 ⟨rfl, hb1⟩
        rw [H1.out, show inR 0 0 100000000000 = true by decide]
        obtain ⟨hc_w1, hf_w1⟩ := bcell hb1
        have hz_w1_0 : w.heap.size < w1.heap.size := by have := hb1.size; simp only [World.size_alloc] at this; omega
        have HB1 := hid (bstep (by go_grown) hb1 : Below w.heap.size w w1)
        go_wp2_with fail
        refine (s_l9Heights _ _ _ _ _ _ _ hs0 _ (H''.out.below HB1.out) hr).mono ?_
        rintro e w2 ⟨rfl, hb2⟩
        rw [H3.out]
        obtain ⟨hc_w2, hf_w2⟩ := bcell hb2
        have hz_w2_0 : w.heap.size < w2.heap.size := by have := hb2.size; omega
        have HB2 := hid (bstep HB1.out hb2 : Below w.heap.size w w2)
        go_wp2_with fail
        refine (s_l9Head _ _).mono ?_
        rintro e _ ⟨rfl, rfl⟩
        rw [H4.out]
        go_wp2
        go_ret2
        exact ⟨rfl, HB2.out⟩
      · have H4 := hid h4
        obtain ⟨g1, g2, g3, g4⟩ := canT_iff h1
        have g5 := goodHt_iff.1 h3
        have hN := (goodNet_get g1).1
        obtain ⟨M, rfl⟩ : ∃ M : Nat, N = M := ⟨N.toNat, by omega⟩
        have hmM : m = M := by omega
        subst hmM
        have hrM : r = m := by omega
        subst hrM
        obtain ⟨s0, rfl⟩ : ∃ s0 : Nat, s = s0 := ⟨s.toNat, by omega⟩
        have HG := hid g1
        have HS := hid (show 1 ≤ s0 ∧ s0 ≤ r by omega)
        have HD := hid g3.2
        have HT := hid g4
        have HHT := hid g5.2
        have HN8 := hid (show 1 ≤ r ∧ r ≤ 8 by omega)
        obtain ⟨P, hP⟩ : ∃ P, prs (headL l (tflows r l s0 ds n) s0 0 r) hs0 r = P := ⟨_, rfl⟩
        have e0 : needR r l s0 ds hs0 need = if inR (needTo P need r) 0 100000000000 = true then (needTo P need r, true) else (0, false) := by
          unfold needR
          rw [if_pos ⟨⟨h1, h3⟩, h4⟩, hl, ← hP]
          simp
        have HPD := hid hP
        have HPL := hid (show P.length = r from by rw [← hP, prs_len, headL_len])
        have hfit := prs_fit (L := headL l (tflows r l s0 ds n) s0 0 r) (hs := hs0) (fun k => by
          by_cases hk : k < r
          · exact headL_fit g1 (by rw [hl]; exact tflows_good (by omega) hl' g3.2) (show 1 ≤ (s0 : Int) ∧ (s0 : Int) ≤ r by omega) (by decide) k hk
          · rw [List.getElem?_eq_none (by rw [headL_len]; omega)]; decide) g5.2 r
        rw [hP] at hfit
        have HF := hid hfit
        have h5 := inR_iff.1 h4
        have HND := hid h5
        have HE := hid e0
        clear hP h1 h3 h4 h5 hl hl' hl'' e0 g1 g2 g3 g4 g5 hfit
        rw [HE.out] at hR
        cases h6 : inR (needTo P need r) 0 100000000000
        · rw [h6] at hR
          rw [if_neg (by simp)] at hR
          cases hR
          have H6 := hid h6
          clear h6
          go_enter Try.func37, Try.ntmps37
          go_wp2_with fail
          refine (s_l9Asked _ _ _ _ _ _ _ _ _ l ds _ (H.out.below (by go_grown)) (H'.out.below (by go_grown)) hn hm).mono ?_
          rintro e w1 ⟨rfl, hb1⟩
          rw [H1.out, show inR 0 0 100000000000 = true by decide]
          obtain ⟨hc_w1, hf_w1⟩ := bcell hb1
          have hz_w1_0 : w.heap.size < w1.heap.size := by have := hb1.size; simp only [World.size_alloc] at this; omega
          have HB1 := hid (bstep (by go_grown) hb1 : Below w.heap.size w w1)
          go_wp2_with fail
          refine (s_l9Heights _ _ _ _ _ _ _ hs0 _ (H''.out.below HB1.out) hr).mono ?_
          rintro e w2 ⟨rfl, hb2⟩
          rw [H3.out]
          obtain ⟨hc_w2, hf_w2⟩ := bcell hb2
          have hz_w2_0 : w.heap.size < w2.heap.size := by have := hb2.size; omega
          have HB2 := hid (bstep HB1.out hb2 : Below w.heap.size w w2)
          go_wp2_with fail
          refine (s_l9Head _ _).mono ?_
          rintro e _ ⟨rfl, rfl⟩
          rw [H4.out]
          go_wp2_with fail
          refine (s_l9Pressures r s0 0 _ _ _ n _ _ _ l ds hs0 _ (H.out.below HB2.out) (H'.out.below HB2.out) (H''.out.below HB2.out) HG.out HS.out HD.out HT.out hc (by decide) HHT.out).mono ?_
          rintro e w3 ⟨a3, c3, rfl, ho3, hb3⟩
          obtain ⟨g3, rfl, hg31, hg32⟩ := own_some ho3 (by have := HN8.out; omega)
          rw [HPD.out] at ho3
          have HB3 := hid (bstep HB2.out hb3)
          have HO := hid ho3
          clear ho3 hb3
          go_wp2
          go_loopg [13, 14] r (fun g mo i wr => ∃ k : Nat, k ≤ r ∧ g = r - k ∧ i = .int .i64 k ∧ mo = .int .i64 (needTo P need k) ∧ w3 = wr)
          case atStart => exact ⟨0, Nat.zero_le _, rfl, rfl, rfl, rfl⟩
          case round =>
            obtain ⟨k, hk, rfl, rfl, rfl, rfl⟩ := hrel
            by_cases hlt : k < r
            · have hcell := HO.out.cell (k := k) hlt
              have hb := HF.out k
              have hw9 := IntWalk.i64_in (need - P[k]?.getD 0) (by have := HND.out; omega)
              go_wp2_with fail
              refine (s_l1Most _ _ _).mono ?_
              rintro e _ ⟨rfl, rfl⟩
              go_wp2
              go_roundg (r - (k + 1))
              case rel => exact ⟨k + 1, by omega, rfl, by go_num, rfl, rfl⟩
              case measure => omega
            · obtain rfl : k = r := by omega
              go_wp2_with fail
              refine (s_l9Head _ _).mono ?_
              rintro e _ ⟨rfl, rfl⟩
              rw [H6.out]
              go_wp2
              go_ret2
              exact ⟨rfl, HB3.out⟩
        · rw [h6] at hR
          rw [if_pos rfl] at hR
          cases hR
          have H6 := hid h6
          clear h6
          go_enter Try.func37, Try.ntmps37
          go_wp2_with fail
          refine (s_l9Asked _ _ _ _ _ _ _ _ _ l ds _ (H.out.below (by go_grown)) (H'.out.below (by go_grown)) hn hm).mono ?_
          rintro e w1 ⟨rfl, hb1⟩
          rw [H1.out, show inR 0 0 100000000000 = true by decide]
          obtain ⟨hc_w1, hf_w1⟩ := bcell hb1
          have hz_w1_0 : w.heap.size < w1.heap.size := by have := hb1.size; simp only [World.size_alloc] at this; omega
          have HB1 := hid (bstep (by go_grown) hb1 : Below w.heap.size w w1)
          go_wp2_with fail
          refine (s_l9Heights _ _ _ _ _ _ _ hs0 _ (H''.out.below HB1.out) hr).mono ?_
          rintro e w2 ⟨rfl, hb2⟩
          rw [H3.out]
          obtain ⟨hc_w2, hf_w2⟩ := bcell hb2
          have hz_w2_0 : w.heap.size < w2.heap.size := by have := hb2.size; omega
          have HB2 := hid (bstep HB1.out hb2 : Below w.heap.size w w2)
          go_wp2_with fail
          refine (s_l9Head _ _).mono ?_
          rintro e _ ⟨rfl, rfl⟩
          rw [H4.out]
          go_wp2_with fail
          refine (s_l9Pressures r s0 0 _ _ _ n _ _ _ l ds hs0 _ (H.out.below HB2.out) (H'.out.below HB2.out) (H''.out.below HB2.out) HG.out HS.out HD.out HT.out hc (by decide) HHT.out).mono ?_
          rintro e w3 ⟨a3, c3, rfl, ho3, hb3⟩
          obtain ⟨g3, rfl, hg31, hg32⟩ := own_some ho3 (by have := HN8.out; omega)
          rw [HPD.out] at ho3
          have HB3 := hid (bstep HB2.out hb3)
          have HO := hid ho3
          clear ho3 hb3
          go_wp2
          go_loopg [13, 14] r (fun g mo i wr => ∃ k : Nat, k ≤ r ∧ g = r - k ∧ i = .int .i64 k ∧ mo = .int .i64 (needTo P need k) ∧ w3 = wr)
          case atStart => exact ⟨0, Nat.zero_le _, rfl, rfl, rfl, rfl⟩
          case round =>
            obtain ⟨k, hk, rfl, rfl, rfl, rfl⟩ := hrel
            by_cases hlt : k < r
            · have hcell := HO.out.cell (k := k) hlt
              have hb := HF.out k
              have hw9 := IntWalk.i64_in (need - P[k]?.getD 0) (by have := HND.out; omega)
              go_wp2_with fail
              refine (s_l1Most _ _ _).mono ?_
              rintro e _ ⟨rfl, rfl⟩
              go_wp2
              go_roundg (r - (k + 1))
              case rel => exact ⟨k + 1, by omega, rfl, by go_num, rfl, rfl⟩
              case measure => omega
            · obtain rfl : k = r := by omega
              go_wp2_with fail
              refine (s_l9Head _ _).mono ?_
              rintro e _ ⟨rfl, rfl⟩
              rw [H6.out]
              go_wp2
              go_ret2
              exact ⟨rfl, HB3.out⟩

end Go.Proofs.Ythhogblnndmenaa
