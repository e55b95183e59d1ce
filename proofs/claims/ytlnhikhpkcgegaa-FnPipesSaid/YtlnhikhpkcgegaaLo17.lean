/-
  Texts of this claim, joined: Need, NetF, NetF2, NetL2.
-/
import Derived.Test.YtlnhikhpkcgegaaLo12
import Derived.Test.YtlnhikhpkcgegaaLo16
/-
  HeadNeeded, in the program and in the reference.
-/
set_option linter.unusedVariables false
set_option linter.unusedSimpArgs false
namespace Go.Proofs.Ytlnhikhpkcgegaa
open Go.RowKit

theorem f_Min (a : Option Addr) (n c : Nat) (l : List Int) (w : World) (h : IntsAt w a n l) (hn1 : 1 ≤ n) (hn : n ≤ 4194304) :
    Calls Try.prog 111 #[.slice a n c] w fun e w' => (∃ r, e = .returned (.int .i64 r) ∧ r ∈ l ∧ ∀ x ∈ l, r ≤ x) ∧ w = w' := by
  have hl := h.1
  obtain ⟨b0, off0, rfl, hbw0, hcell0⟩ := h.2 0 (by omega)
  simp only [Nat.add_zero] at hcell0
  have H := hid h
  have HL := hid hl
  clear h hl
  go_enter Try.func111, Try.ntmps111
  go_wp2
  go_loopg [3, 4] (n - 1) (fun g m i wr => ∃ (k : Nat) (r : Int), 1 ≤ k ∧ k ≤ n ∧ g = n - k ∧ i = .int .i64 k ∧ m = .int .i64 r ∧ w = wr ∧ Hid (r ∈ l.take k ∧ ∀ x ∈ l.take k, r ≤ x))
  case atStart =>
    have e : l.take 1 = [l[0]?.getD 0] := by rw [take_succ' l 0 (by have := HL.out; omega)]; simp
    exact ⟨1, _, by omega, hn1, rfl, rfl, rfl, rfl, by rw [e]; simp, by rw [e]; intro x hx; simp at hx; omega⟩
  case round =>
    obtain ⟨k, r, hk1, hk, rfl, rfl, rfl, rfl, hh⟩ := hrel
    by_cases hlt : k < n
    · obtain ⟨_, _, e1, hbw, hcell⟩ := H.out.2 k hlt
      cases e1
      have HN : Hid (min r (l[k]?.getD 0) ∈ l.take (k + 1) ∧ ∀ x ∈ l.take (k + 1), (fun r => r ≤ x) (min r (l[k]?.getD 0))) := by
        rw [take_succ' l k (by have := HL.out; omega)]
        refine ⟨?_, ?_⟩
        · rw [List.mem_append, List.mem_singleton]
          by_cases hle : min r (l[k]?.getD 0) = r
          · exact .inl (by rw [hle]; exact hh.out.1)
          · exact .inr (by omega)
        · intro x hx
          rw [List.mem_append, List.mem_singleton] at hx
          rcases hx with hx | rfl
          · have := hh.out.2 x hx
            show _ ≤ _
            omega
          · show _ ≤ _
            omega
      go_wp2
      all_goals go_roundg (n - (k + 1))
      all_goals first
        | omega
        | (refine ⟨k + 1, min r (l[k]?.getD 0), by omega, by omega, rfl, by go_num, ?_, rfl, HN⟩; first | rfl | (congr 1; omega))
    · obtain rfl : k = n := by omega
      go_wp2
      go_ret
      have e := hh.out
      rw [List.take_of_length_le (by have := HL.out; omega)] at e
      exact ⟨⟨r, rfl, e.1, e.2⟩, rfl⟩

/-- The greatest lack at the first nodes, and zero. -/
def needTo (L : List Int) (d : Int) : Nat → Int
  | 0 => 0
  | k + 1 => max (needTo L d k) (d - L[k]?.getD 0)
theorem needTo_ub (L : List Int) (d : Int) : ∀ k j, j < k → d - L[j]?.getD 0 ≤ needTo L d k
  | 0, j, h => by omega
  | k + 1, j, h => by
    unfold needTo
    by_cases e : j = k
    · subst e; omega
    · have := needTo_ub L d k j (by omega)
      omega
theorem needTo_zero (L : List Int) (d : Int) : ∀ k, 0 ≤ needTo L d k
  | 0 => by simp [needTo]
  | k + 1 => by have := needTo_zero L d k; unfold needTo; omega
theorem needTo_is (L : List Int) (d : Int) : ∀ k, needTo L d k = 0 ∨ ∃ j, j < k ∧ needTo L d k = d - L[j]?.getD 0
  | 0 => .inl rfl
  | k + 1 => by
    unfold needTo
    by_cases e : needTo L d k ≤ d - L[k]?.getD 0
    · exact .inr ⟨k, by omega, by omega⟩
    · rcases needTo_is L d k with h | ⟨j, hj, h⟩
      · exact .inl (by omega)
      · exact .inr ⟨j, by omega, by omega⟩
theorem needTo_min {L : List Int} {d r : Int} {M : Nat} (hl : L.length = M) (h1 : r ∈ L) (h2 : ∀ x ∈ L, r ≤ x) : max (d - r) 0 = needTo L d M := by
  obtain ⟨j, hj, rfl⟩ := List.mem_iff_getElem.1 h1
  have a := needTo_ub L d M j (by omega)
  rw [List.getElem?_eq_getElem hj, Option.getD_some] at a
  have z := needTo_zero L d M
  rcases needTo_is L d M with e | ⟨i, hi, e⟩
  · omega
  · have := h2 _ (getD_mem L i (by omega))
    omega
theorem prs_fit {L hs : List Int} (hL : ∀ k : Nat, -4608000000 ≤ L[k]?.getD 0 ∧ L[k]?.getD 0 ≤ 104608000000) (hh : ∀ x ∈ hs, 0 ≤ x ∧ x ≤ 100000000000) : ∀ k j : Nat, -104608000000 ≤ (prs L hs k)[j]?.getD 0 ∧ (prs L hs k)[j]?.getD 0 ≤ 104608000000
  | 0, j => by have := hL j; unfold prs; omega
  | k + 1, j => by
    have ih := prs_fit hL hh k j
    unfold prs
    rw [List.getElem?_set]
    split
    · split
      · have a := hL k
        have b : 0 ≤ hs[k]?.getD 0 ∧ hs[k]?.getD 0 ≤ 100000000000 := by
          by_cases hk : k < hs.length
          · exact hh _ (getD_mem hs k hk)
          · rw [List.getElem?_eq_none (by omega)]; decide
        simp only [Option.getD_some]
        omega
      · decide
    · exact ih

/-- What HeadNeeded returns. -/
noncomputable def needR (N : Int) (l : List Pip) (s : Int) (ds hs : List Int) (need : Int) : Int × Bool := if (canT N l s ds = true ∧ goodHt N hs = true) ∧ inR need 0 100000000000 = true then (if inR (needTo (prs (headL l (tflows N.toNat l s ds l.length) s 0 N.toNat) hs N.toNat) need N.toNat) 0 100000000000 = true then (needTo (prs (headL l (tflows N.toNat l s ds l.length) s 0 N.toNat) hs N.toNat) need N.toNat, true) else (0, false)) else (0, false)

set_option maxRecDepth 100000 in
set_option maxHeartbeats 2000000 in
theorem i_HeadNeeded (N s need : Int) (a p q : Option Addr) (n c m d r e0 : Nat) (l : List Pip) (ds hs0 : List Int) (w : World) (h : QAt w a n l) (h' : IntsAt w p m ds) (h'' : IntsAt w q r hs0) (hn : n ≤ 1048576) (hm : m ≤ 1048576) (hr : r ≤ 1048576) (x : Int) (b : Bool) (hR : needR N l s ds hs0 need = (x, b)) :
    Calls Try.prog 37 #[.agg #[.int .i64 N, .slice a n c], .int .i64 s, .slice p m d, .slice q r e0, .int .i64 need] w fun e w' => e = .returned (.tuple #[.int .i64 x, .bool b]) ∧ Below w.heap.size w w' := by
  have hl := h.1
  have hl' := h'.1
  have hl'' := h''.1
  have H := hid h
  have H' := hid h'
  have H'' := hid h''
  clear h h' h''
  cases h1 : canT N l s ds
  · have e0 : needR N l s ds hs0 need = (0, false) := by simp [needR, h1]
    rw [e0] at hR
    cases hR
    have H1 := hid h1
    clear h1 hl hl' hl''
    go_enter Try.func37, Try.ntmps37
    go_wp2_with fail
    refine (i_canTree _ _ _ _ _ _ _ _ l ds _ (H.out.below (by go_grown)) (H'.out.below (by go_grown)) hn hm).mono ?_
    rintro e w1 ⟨rfl, hb1⟩
    rw [H1.out]
    obtain ⟨hc_w1, hf_w1⟩ := bcell hb1
    have hz_w1_0 : w.heap.size < w1.heap.size := by have := hb1.size; simp only [World.size_alloc] at this; omega
    have HB1 := hid (bstep (by go_grown) hb1 : Below w.heap.size w w1)
    go_wp2
    go_ret2
    exact ⟨rfl, HB1.out⟩
  · have H1 := hid h1
    cases h3 : goodHt N hs0
    · have e0 : needR N l s ds hs0 need = (0, false) := by simp [needR, h3]
      rw [e0] at hR
      cases hR
      have H3 := hid h3
      clear h1 h3 hl hl' hl''
      go_enter Try.func37, Try.ntmps37
      go_wp2_with fail
      refine (i_canTree _ _ _ _ _ _ _ _ l ds _ (H.out.below (by go_grown)) (H'.out.below (by go_grown)) hn hm).mono ?_
      rintro e w1 ⟨rfl, hb1⟩
      rw [H1.out]
      obtain ⟨hc_w1, hf_w1⟩ := bcell hb1
      have hz_w1_0 : w.heap.size < w1.heap.size := by have := hb1.size; simp only [World.size_alloc] at this; omega
      have HB1 := hid (bstep (by go_grown) hb1 : Below w.heap.size w w1)
      go_wp2_with fail
      refine (i_areHeights _ _ _ _ _ _ _ hs0 _ (H''.out.below HB1.out) hr).mono ?_
      rintro e w2 ⟨rfl, hb2⟩
      rw [H3.out]
      obtain ⟨hc_w2, hf_w2⟩ := bcell hb2
      have hz_w2_0 : w.heap.size < w2.heap.size := by have := hb2.size; omega
      have HB2 := hid (bstep HB1.out hb2 : Below w.heap.size w w2)
      go_wp2
      go_ret2
      exact ⟨rfl, HB2.out⟩
    · have H3 := hid h3
      cases h4 : inR need 0 100000000000
      · have e0 : needR N l s ds hs0 need = (0, false) := by simp [needR, h4]
        rw [e0] at hR
        cases hR
        have H4 := hid h4
        clear h1 h3 h4 hl hl' hl''
        go_enter Try.func37, Try.ntmps37
        go_wp2_with fail
        refine (i_canTree _ _ _ _ _ _ _ _ l ds _ (H.out.below (by go_grown)) (H'.out.below (by go_grown)) hn hm).mono ?_
        rintro e w1 ⟨rfl, hb1⟩
        rw [H1.out]
        obtain ⟨hc_w1, hf_w1⟩ := bcell hb1
        have hz_w1_0 : w.heap.size < w1.heap.size := by have := hb1.size; simp only [World.size_alloc] at this; omega
        have HB1 := hid (bstep (by go_grown) hb1 : Below w.heap.size w w1)
        go_wp2_with fail
        refine (i_areHeights _ _ _ _ _ _ _ hs0 _ (H''.out.below HB1.out) hr).mono ?_
        rintro e w2 ⟨rfl, hb2⟩
        rw [H3.out]
        obtain ⟨hc_w2, hf_w2⟩ := bcell hb2
        have hz_w2_0 : w.heap.size < w2.heap.size := by have := hb2.size; omega
        have HB2 := hid (bstep HB1.out hb2 : Below w.heap.size w w2)
        go_wp2_with fail
        refine (i_isHead _ _).mono ?_
        rintro e _ ⟨rfl, rfl⟩
        rw [H4.out]
        go_wp2
        go_ret2
        exact ⟨rfl, HB2.out⟩
      · have H4 := hid h4
        obtain ⟨g1, g2, g3, g4⟩ := canT_iff h1
        have g5 := goodHt_iff.1 h3
        have hN := (goodNet_get g1).1
        obtain ⟨M, rfl⟩ : ∃ M : Nat, N = M := ⟨N.toNat, by omega⟩
        have hmM : m = M := by omega
        subst hmM
        have hrM : r = m := by omega
        subst hrM
        obtain ⟨s0, rfl⟩ : ∃ s0 : Nat, s = s0 := ⟨s.toNat, by omega⟩
        have HG := hid g1
        have HS := hid (show 1 ≤ s0 ∧ s0 ≤ r by omega)
        have HD := hid g3.2
        have HT := hid g4
        have HHT := hid g5.2
        have HN8 := hid (show 1 ≤ r ∧ r ≤ 8 by omega)
        obtain ⟨P, hP⟩ : ∃ P, prs (headL l (tflows r l s0 ds n) s0 0 r) hs0 r = P := ⟨_, rfl⟩
        have e0 : needR r l s0 ds hs0 need = if inR (needTo P need r) 0 100000000000 = true then (needTo P need r, true) else (0, false) := by
          unfold needR
          rw [if_pos ⟨⟨h1, h3⟩, h4⟩, hl, ← hP]
          simp
        have HPD := hid hP
        have HPL := hid (show P.length = r from by rw [← hP, prs_len, headL_len])
        have hfit := prs_fit (L := headL l (tflows r l s0 ds n) s0 0 r) (hs := hs0) (fun k => by
          by_cases hk : k < r
          · exact headL_fit g1 (by rw [hl]; exact tflows_good (by omega) hl' g3.2) (show 1 ≤ (s0 : Int) ∧ (s0 : Int) ≤ r by omega) (by decide) k hk
          · rw [List.getElem?_eq_none (by rw [headL_len]; omega)]; decide) g5.2 r
        rw [hP] at hfit
        have HF := hid hfit
        have h5 := inR_iff.1 h4
        have HND := hid h5
        have HE := hid e0
        clear hP h1 h3 h4 h5 hl hl' hl'' e0 g1 g2 g3 g4 g5 hfit
        rw [HE.out] at hR
        cases h6 : inR (needTo P need r) 0 100000000000
        · rw [h6] at hR
          rw [if_neg (by simp)] at hR
          cases hR
          have H6 := hid h6
          clear h6
          go_enter Try.func37, Try.ntmps37
          go_wp2_with fail
          refine (i_canTree _ _ _ _ _ _ _ _ l ds _ (H.out.below (by go_grown)) (H'.out.below (by go_grown)) hn hm).mono ?_
          rintro e w1 ⟨rfl, hb1⟩
          rw [H1.out]
          obtain ⟨hc_w1, hf_w1⟩ := bcell hb1
          have hz_w1_0 : w.heap.size < w1.heap.size := by have := hb1.size; simp only [World.size_alloc] at this; omega
          have HB1 := hid (bstep (by go_grown) hb1 : Below w.heap.size w w1)
          go_wp2_with fail
          refine (i_areHeights _ _ _ _ _ _ _ hs0 _ (H''.out.below HB1.out) hr).mono ?_
          rintro e w2 ⟨rfl, hb2⟩
          rw [H3.out]
          obtain ⟨hc_w2, hf_w2⟩ := bcell hb2
          have hz_w2_0 : w.heap.size < w2.heap.size := by have := hb2.size; omega
          have HB2 := hid (bstep HB1.out hb2 : Below w.heap.size w w2)
          go_wp2_with fail
          refine (i_isHead _ _).mono ?_
          rintro e _ ⟨rfl, rfl⟩
          rw [H4.out]
          go_wp2_with fail
          refine (i_pressuresOf r s0 0 _ _ _ n _ _ _ l ds hs0 _ (H.out.below HB2.out) (H'.out.below HB2.out) (H''.out.below HB2.out) HG.out HS.out HD.out HT.out (by decide) HHT.out).mono ?_
          rintro e w3 ⟨a3, c3, rfl, ho3, hb3⟩
          rw [HPD.out] at ho3
          have HB3 := hid (bstep HB2.out hb3)
          have HO := hid ho3
          clear ho3 hb3
          go_wp2_with fail
          refine (f_Min _ _ _ P _ HO.out.at (by have := HN8.out; omega) (by have := HN8.out; omega)).mono ?_
          rintro e _ ⟨⟨z, rfl, hz1, hz2⟩, rfl⟩
          have hzb : -104608000000 ≤ z ∧ z ≤ 104608000000 := by
            obtain ⟨j, hj, rfl⟩ := List.mem_iff_getElem.1 hz1
            have := HF.out j
            rw [List.getElem?_eq_getElem hj, Option.getD_some] at this
            exact this
          have hmax := needTo_min (d := need) HPL.out hz1 hz2
          have HMX := hid hmax
          clear hz1 hz2 hmax
          have hw9 := IntWalk.i64_in (need - z) (by have := HND.out; omega)
          go_wp2_with fail
          · have hmz := HMX.out
            have HZ := hid (show inR 0 0 100000000000 = false from by have e := H6.out; rw [← HMX.out, show max (need - z) 0 = 0 by omega] at e; exact e)
            refine (i_isHead _ _).mono ?_
            rintro e _ ⟨rfl, rfl⟩
            rw [HZ.out]
            go_wp2
            go_ret2
            exact ⟨rfl, HB3.out⟩
          · have hmz := HMX.out
            have HZ := hid (show inR (need - z) 0 100000000000 = false from by have e := H6.out; rw [← HMX.out, show max (need - z) 0 = need - z by omega] at e; exact e)
            refine (i_isHead _ _).mono ?_
            rintro e _ ⟨rfl, rfl⟩
            rw [HZ.out]
            go_wp2
            go_ret2
            exact ⟨rfl, HB3.out⟩
        · rw [h6] at hR
          rw [if_pos rfl] at hR
          cases hR
          have H6 := hid h6
          clear h6
          go_enter Try.func37, Try.ntmps37
          go_wp2_with fail
          refine (i_canTree _ _ _ _ _ _ _ _ l ds _ (H.out.below (by go_grown)) (H'.out.below (by go_grown)) hn hm).mono ?_
          rintro e w1 ⟨rfl, hb1⟩
          rw [H1.out]
          obtain ⟨hc_w1, hf_w1⟩ := bcell hb1
          have hz_w1_0 : w.heap.size < w1.heap.size := by have := hb1.size; simp only [World.size_alloc] at this; omega
          have HB1 := hid (bstep (by go_grown) hb1 : Below w.heap.size w w1)
          go_wp2_with fail
          refine (i_areHeights _ _ _ _ _ _ _ hs0 _ (H''.out.below HB1.out) hr).mono ?_
          rintro e w2 ⟨rfl, hb2⟩
          rw [H3.out]
          obtain ⟨hc_w2, hf_w2⟩ := bcell hb2
          have hz_w2_0 : w.heap.size < w2.heap.size := by have := hb2.size; omega
          have HB2 := hid (bstep HB1.out hb2 : Below w.heap.size w w2)
          go_wp2_with fail
          refine (i_isHead _ _).mono ?_
          rintro e _ ⟨rfl, rfl⟩
          rw [H4.out]
          go_wp2_with fail
          refine (i_pressuresOf r s0 0 _ _ _ n _ _ _ l ds hs0 _ (H.out.below HB2.out) (H'.out.below HB2.out) (H''.out.below HB2.out) HG.out HS.out HD.out HT.out (by decide) HHT.out).mono ?_
          rintro e w3 ⟨a3, c3, rfl, ho3, hb3⟩
          rw [HPD.out] at ho3
          have HB3 := hid (bstep HB2.out hb3)
          have HO := hid ho3
          clear ho3 hb3
          go_wp2_with fail
          refine (f_Min _ _ _ P _ HO.out.at (by have := HN8.out; omega) (by have := HN8.out; omega)).mono ?_
          rintro e _ ⟨⟨z, rfl, hz1, hz2⟩, rfl⟩
          have hzb : -104608000000 ≤ z ∧ z ≤ 104608000000 := by
            obtain ⟨j, hj, rfl⟩ := List.mem_iff_getElem.1 hz1
            have := HF.out j
            rw [List.getElem?_eq_getElem hj, Option.getD_some] at this
            exact this
          have hmax := needTo_min (d := need) HPL.out hz1 hz2
          have HMX := hid hmax
          clear hz1 hz2 hmax
          have hw9 := IntWalk.i64_in (need - z) (by have := HND.out; omega)
          go_wp2_with fail
          · have hmz := HMX.out
            have HZ := hid (show inR 0 0 100000000000 = true from by have e := H6.out; rw [← HMX.out, show max (need - z) 0 = 0 by omega] at e; exact e)
            refine (i_isHead _ _).mono ?_
            rintro e _ ⟨rfl, rfl⟩
            rw [HZ.out]
            go_wp2
            go_ret2
            exact ⟨by rw [show needTo P need r = 0 by omega]; rfl, HB3.out⟩
          · have hmz := HMX.out
            have HZ := hid (show inR (need - z) 0 100000000000 = true from by have e := H6.out; rw [← HMX.out, show max (need - z) 0 = need - z by omega] at e; exact e)
            refine (i_isHead _ _).mono ?_
            rintro e _ ⟨rfl, rfl⟩
            rw [HZ.out]
            go_wp2
            go_ret2
            exact ⟨by rw [show needTo P need r = need - z by omega]; rfl, HB3.out⟩

set_option maxRecDepth 100000 in
set_option maxHeartbeats 2000000 in
theorem s_HeadNeeded (N s need : Int) (a p q : Option Addr) (n c m d r e0 : Nat) (l : List Pip) (ds hs0 : List Int) (w : World) (h : QAt w a n l) (h' : IntsAt w p m ds) (h'' : IntsAt w q r hs0) (hn : n ≤ 1048576) (hm : m ≤ 1048576) (hr : r ≤ 1048576) (hc : n ≤ c) (x : Int) (b : Bool) (hR : needR N l s ds hs0 need = (x, b)) :
    Calls Try.prog 38 #[.agg #[.int .i64 N, .slice a n c], .int .i64 s, .slice p m d, .slice q r e0, .int .i64 need] w fun e w' => e = .returned (.tuple #[.int .i64 x, .bool b]) ∧ Below w.heap.size w w' := by
  have hl := h.1
  have hl' := h'.1
  have hl'' := h''.1
  have H := hid h
  have H' := hid h'
  have H'' := hid h''
  clear h h' h''
  cases h1 : canT N l s ds
  · have e0 : needR N l s ds hs0 need = (0, false) := by simp [needR, h1]
    rw [e0] at hR
    cases hR
    have H1 := hid h1
    clear h1 hl hl' hl''
    go_enter Try.func38, Try.ntmps38
    go_wp2_with fail
    refine (s_l9Asked _ _ _ _ _ _ _ _ _ l ds _ (H.out.below (by go_grown)) (H'.out.below (by go_grown)) hn hm).mono ?_
    rintro e w1 ⟨rfl, hb1⟩
    rw [H1.out, show inR 0 0 100000000000 = true by decide]
    obtain ⟨hc_w1, hf_w1⟩ := bcell hb1
    have hz_w1_0 : w.heap.size < w1.heap.size := by have := hb1.size; simp only [World.size_alloc] at this; omega
    have HB1 := hid (bstep (by go_grown) hb1 : Below w.heap.size w w1)
    go_wp2
    go_ret2
    exact ⟨rfl, HB1.out⟩
  · have H1 := hid h1
    cases h3 : goodHt N hs0
    · have e0 : needR N l s ds hs0 need = (0, false) := by simp [needR, h3]
      rw [e0] at hR
      cases hR
      have H3 := hid h3
      clear h1 h3 hl hl' hl''
      go_enter Try.func38, Try.ntmps38
      go_wp2_with fail
      refine (s_l9Asked _ _ _ _ _ _ _ _ _ l ds _ (H.out.below (by go_grown)) (H'.out.below (by go_grown)) hn hm).mono ?_
      rintro e w1 ⟨rfl, hb1⟩
      rw [H1.out, show inR 0 0 100000000000 = true by decide]
      obtain ⟨hc_w1, hf_w1⟩ := bcell hb1
      have hz_w1_0 : w.heap.size < w1.heap.size := by have := hb1.size; simp only [World.size_alloc] at this; omega
      have HB1 := hid (bstep (by go_grown) hb1 : Below w.heap.size w w1)
      go_wp2_with fail
      refine (s_l9Heights _ _ _ _ _ _ _ hs0 _ (H''.out.below HB1.out) hr).mono ?_
      rintro e w2 ⟨rfl, hb2⟩
      rw [H3.out]
      obtain ⟨hc_w2, hf_w2⟩ := bcell hb2
      have hz_w2_0 : w.heap.size < w2.heap.size := by have := hb2.size; omega
      have HB2 := hid (bstep HB1.out hb2 : Below w.heap.size w w2)
      go_wp2
      go_ret2
      exact ⟨rfl, HB2.out⟩
    · have H3 := hid h3
      cases h4 : inR need 0 100000000000
      · have e0 : needR N l s ds hs0 need = (0, false) := by simp [needR, h4]
        rw [e0] at hR
        cases hR
        have H4 := hid h4
        clear h1 h3 h4 hl hl' hl''
        go_enter Try.func38, Try.ntmps38
        go_wp2_with fail
        refine (s_l9Asked _ _ _ _ _ _ _ _ _ l ds _ (H.out.below (by go_grown)) (H'.out.below (by go_grown)) hn hm).mono ?_
        rintro e w1 ⟨rfl, hb1⟩
        rw [H1.out, show inR 0 0 100000000000 = true by decide]
        obtain ⟨hc_w1, hf_w1⟩ := bcell hb1
        have hz_w1_0 : w.heap.size < w1.heap.size := by have := hb1.size; simp only [World.size_alloc] at this; omega
        have HB1 := hid (bstep (by go_grown) hb1 : Below w.heap.size w w1)
        go_wp2_with fail
        refine (s_l9Heights _ _ _ _ _ _ _ hs0 _ (H''.out.below HB1.out) hr).mono ?_
        rintro e w2 ⟨rfl, hb2⟩
        rw [H3.out]
        obtain ⟨hc_w2, hf_w2⟩ := bcell hb2
        have hz_w2_0 : w.heap.size < w2.heap.size := by have := hb2.size; omega
        have HB2 := hid (bstep HB1.out hb2 : Below w.heap.size w w2)
        go_wp2_with fail
        refine (s_l9Head _ _).mono ?_
        rintro e _ ⟨rfl, rfl⟩
        rw [H4.out]
        go_wp2
        go_ret2
        exact ⟨rfl, HB2.out⟩
      · have H4 := hid h4
        obtain ⟨g1, g2, g3, g4⟩ := canT_iff h1
        have g5 := goodHt_iff.1 h3
        have hN := (goodNet_get g1).1
        obtain ⟨M, rfl⟩ : ∃ M : Nat, N = M := ⟨N.toNat, by omega⟩
        have hmM : m = M := by omega
        subst hmM
        have hrM : r = m := by omega
        subst hrM
        obtain ⟨s0, rfl⟩ : ∃ s0 : Nat, s = s0 := ⟨s.toNat, by omega⟩
        have HG := hid g1
        have HS := hid (show 1 ≤ s0 ∧ s0 ≤ r by omega)
        have HD := hid g3.2
        have HT := hid g4
        have HHT := hid g5.2
        have HN8 := hid (show 1 ≤ r ∧ r ≤ 8 by omega)
        obtain ⟨P, hP⟩ : ∃ P, prs (headL l (tflows r l s0 ds n) s0 0 r) hs0 r = P := ⟨_, rfl⟩
        have e0 : needR r l s0 ds hs0 need = if inR (needTo P need r) 0 100000000000 = true then (needTo P need r, true) else (0, false) := by
          unfold needR
          rw [if_pos ⟨⟨h1, h3⟩, h4⟩, hl, ← hP]
          simp
        have HPD := hid hP
        have HPL := hid (show P.length = r from by rw [← hP, prs_len, headL_len])
        have hfit := prs_fit (L := headL l (tflows r l s0 ds n) s0 0 r) (hs := hs0) (fun k => by
          by_cases hk : k < r
          · exact headL_fit g1 (by rw [hl]; exact tflows_good (by omega) hl' g3.2) (show 1 ≤ (s0 : Int) ∧ (s0 : Int) ≤ r by omega) (by decide) k hk
          · rw [List.getElem?_eq_none (by rw [headL_len]; omega)]; decide) g5.2 r
        rw [hP] at hfit
        have HF := hid hfit
        have h5 := inR_iff.1 h4
        have HND := hid h5
        have HE := hid e0
        clear hP h1 h3 h4 h5 hl hl' hl'' e0 g1 g2 g3 g4 g5 hfit
        rw [HE.out] at hR
        cases h6 : inR (needTo P need r) 0 100000000000
        · rw [h6] at hR
          rw [if_neg (by simp)] at hR
          cases hR
          have H6 := hid h6
          clear h6
          go_enter Try.func38, Try.ntmps38
          go_wp2_with fail
          refine (s_l9Asked _ _ _ _ _ _ _ _ _ l ds _ (H.out.below (by go_grown)) (H'.out.below (by go_grown)) hn hm).mono ?_
          rintro e w1 ⟨rfl, hb1⟩
          rw [H1.out, show inR 0 0 100000000000 = true by decide]
          obtain ⟨hc_w1, hf_w1⟩ := bcell hb1
          have hz_w1_0 : w.heap.size < w1.heap.size := by have := hb1.size; simp only [World.size_alloc] at this; omega
          have HB1 := hid (bstep (by go_grown) hb1 : Below w.heap.size w w1)
          go_wp2_with fail
          refine (s_l9Heights _ _ _ _ _ _ _ hs0 _ (H''.out.below HB1.out) hr).mono ?_
          rintro e w2 ⟨rfl, hb2⟩
          rw [H3.out]
          obtain ⟨hc_w2, hf_w2⟩ := bcell hb2
          have hz_w2_0 : w.heap.size < w2.heap.size := by have := hb2.size; omega
          have HB2 := hid (bstep HB1.out hb2 : Below w.heap.size w w2)
          go_wp2_with fail
          refine (s_l9Head _ _).mono ?_
          rintro e _ ⟨rfl, rfl⟩
          rw [H4.out]
          go_wp2_with fail
          refine (s_l9Pressures r s0 0 _ _ _ n _ _ _ l ds hs0 _ (H.out.below HB2.out) (H'.out.below HB2.out) (H''.out.below HB2.out) HG.out HS.out HD.out HT.out hc (by decide) HHT.out).mono ?_
          rintro e w3 ⟨a3, c3, rfl, ho3, hb3⟩
          obtain ⟨g3, rfl, hg31, hg32⟩ := own_some ho3 (by have := HN8.out; omega)
          rw [HPD.out] at ho3
          have HB3 := hid (bstep HB2.out hb3)
          have HO := hid ho3
          clear ho3 hb3
          go_wp2
          go_loopg [13, 14] r (fun g mo i wr => ∃ k : Nat, k ≤ r ∧ g = r - k ∧ i = .int .i64 k ∧ mo = .int .i64 (needTo P need k) ∧ w3 = wr)
          case atStart => exact ⟨0, Nat.zero_le _, rfl, rfl, rfl, rfl⟩
          case round =>
            obtain ⟨k, hk, rfl, rfl, rfl, rfl⟩ := hrel
            by_cases hlt : k < r
            · have hcell := HO.out.cell (k := k) hlt
              have hb := HF.out k
              have hw9 := IntWalk.i64_in (need - P[k]?.getD 0) (by have := HND.out; omega)
              go_wp2_with fail
              refine (s_l1Most _ _ _).mono ?_
              rintro e _ ⟨rfl, rfl⟩
              go_wp2
              go_roundg (r - (k + 1))
              case rel => exact ⟨k + 1, by omega, rfl, by go_num, rfl, rfl⟩
              case measure => omega
            · obtain rfl : k = r := by omega
              go_wp2_with fail
              refine (s_l9Head _ _).mono ?_
              rintro e _ ⟨rfl, rfl⟩
              rw [H6.out]
              go_wp2
              go_ret2
              exact ⟨rfl, HB3.out⟩
        · rw [h6] at hR
          rw [if_pos rfl] at hR
          cases hR
          have H6 := hid h6
          clear h6
          go_enter Try.func38, Try.ntmps38
          go_wp2_with fail
          refine (s_l9Asked _ _ _ _ _ _ _ _ _ l ds _ (H.out.below (by go_grown)) (H'.out.below (by go_grown)) hn hm).mono ?_
          rintro e w1 ⟨rfl, hb1⟩
          rw [H1.out, show inR 0 0 100000000000 = true by decide]
          obtain ⟨hc_w1, hf_w1⟩ := bcell hb1
          have hz_w1_0 : w.heap.size < w1.heap.size := by have := hb1.size; simp only [World.size_alloc] at this; omega
          have HB1 := hid (bstep (by go_grown) hb1 : Below w.heap.size w w1)
          go_wp2_with fail
          refine (s_l9Heights _ _ _ _ _ _ _ hs0 _ (H''.out.below HB1.out) hr).mono ?_
          rintro e w2 ⟨rfl, hb2⟩
          rw [H3.out]
          obtain ⟨hc_w2, hf_w2⟩ := bcell hb2
          have hz_w2_0 : w.heap.size < w2.heap.size := by have := hb2.size; omega
          have HB2 := hid (bstep HB1.out hb2 : Below w.heap.size w w2)
          go_wp2_with fail
          refine (s_l9Head _ _).mono ?_
          rintro e _ ⟨rfl, rfl⟩
          rw [H4.out]
          go_wp2_with fail
          refine (s_l9Pressures r s0 0 _ _ _ n _ _ _ l ds hs0 _ (H.out.below HB2.out) (H'.out.below HB2.out) (H''.out.below HB2.out) HG.out HS.out HD.out HT.out hc (by decide) HHT.out).mono ?_
          rintro e w3 ⟨a3, c3, rfl, ho3, hb3⟩
          obtain ⟨g3, rfl, hg31, hg32⟩ := own_some ho3 (by have := HN8.out; omega)
          rw [HPD.out] at ho3
          have HB3 := hid (bstep HB2.out hb3)
          have HO := hid ho3
          clear ho3 hb3
          go_wp2
          go_loopg [13, 14] r (fun g mo i wr => ∃ k : Nat, k ≤ r ∧ g = r - k ∧ i = .int .i64 k ∧ mo = .int .i64 (needTo P need k) ∧ w3 = wr)
          case atStart => exact ⟨0, Nat.zero_le _, rfl, rfl, rfl, rfl⟩
          case round =>
            obtain ⟨k, hk, rfl, rfl, rfl, rfl⟩ := hrel
            by_cases hlt : k < r
            · have hcell := HO.out.cell (k := k) hlt
              have hb := HF.out k
              have hw9 := IntWalk.i64_in (need - P[k]?.getD 0) (by have := HND.out; omega)
              go_wp2_with fail
              refine (s_l1Most _ _ _).mono ?_
              rintro e _ ⟨rfl, rfl⟩
              go_wp2
              go_roundg (r - (k + 1))
              case rel => exact ⟨k + 1, by omega, rfl, by go_num, rfl, rfl⟩
              case measure => omega
            · obtain rfl : k = r := by omega
              go_wp2_with fail
              refine (s_l9Head _ _).mono ?_
              rintro e _ ⟨rfl, rfl⟩
              rw [H6.out]
              go_wp2
              go_ret2
              exact ⟨rfl, HB3.out⟩

end Go.Proofs.Ytlnhikhpkcgegaa

/-
  Networks: the energy of flows.
-/
set_option linter.unusedVariables false
set_option linter.unusedSimpArgs false
namespace Go.Proofs.Ytlnhikhpkcgegaa
open Go.RowKit

theorem enters_EnergyOf : enters 120 := by intro args w; kernel_rfl
theorem i_EnergyOf1 (x : Int) (w : World) (hx : -8000 ≤ x ∧ x ≤ 8000) : Calls Try.prog 120 #[.int .i64 x] w fun e w' => e = .returned (.bool (!inR x (-2000) 2000)) ∧ Below w.heap.size w w' := by
  go_enter Try.func120, Try.ntmps120
  go_wp2_with fail
  refine (i_absOf _ _ (by omega)).mono ?_
  rintro e w' ⟨rfl, rfl⟩
  go_wp2
  all_goals go_ret
  all_goals refine ⟨ret_bool ?_, by go_grown⟩
  all_goals (rw [Bool.eq_iff_iff]; simp [inR]; omega)

/-- What EnergyOf returns. -/
def slow (fs : List Int) : Bool := !fs.any (fun x => !inR x (-2000) 2000)
def energyR (N : Int) (l : List Pip) (fs : List Int) : Int × Bool := if goodNet N l = true ∧ goodFl l.length fs = true ∧ slow fs = true then (enrg l fs l.length, true) else (0, false)
theorem slow_iff {fs : List Int} : slow fs = true ↔ ∀ x ∈ fs, -2000 ≤ x ∧ x ≤ 2000 := by simp only [slow, Bool.not_eq_true', any_in]

theorem enrg_le {N : Int} {l : List Pip} {fs : List Int} (hg : goodNet N l = true) (hl : fs.length = l.length) (hs : slow fs = true) : ∀ k, k ≤ l.length → -(72000000000 * (k : Int)) ≤ enrg l fs k ∧ enrg l fs k ≤ 72000000000 * (k : Int)
  | 0, _ => by simp [enrg]
  | k + 1, hk => by
    have ih := enrg_le hg hl hs k (by omega)
    have hp := goodNet_pipe hg (k := k) (by omega)
    have hq := slow_iff.1 hs _ (getD_mem' (k := k) (by omega))
    have := (enrg_fit hp.2.2.2.2 hq).2.2
    rw [enrg_succ]
    push_cast
    omega

set_option maxRecDepth 100000 in
set_option maxHeartbeats 2000000 in
theorem i_energyOf (N : Int) (a b : Option Addr) (n c d : Nat) (l : List Pip) (fs : List Int) (w : World) (h : QAt w a n l) (h' : IntsAt w b n fs) (hg : goodNet N l = true) (hs : slow fs = true) :
    Calls Try.prog 122 #[.agg #[.int .i64 N, .slice a n c], .slice b n d] w fun e w' => e = .returned (.int .i64 (enrg l fs n)) ∧ Below w.heap.size w w' := by
  have H := hid h
  have H' := hid h'
  have HG := hid hg
  have HS := hid hs
  have HL := hid h.1
  have HL' := hid h'.1
  have hn : n ≤ 10 := by have := (goodNet_get hg).2.1; have := h.1; omega
  clear h h' hg hs
  go_enter Try.func122, Try.ntmps122
  go_wp2
  go_loopg [5, 11] n (fun g t i wr => ∃ k : Nat, k ≤ n ∧ g = n - k ∧ i = .int .i64 k ∧ t = .int .i64 (enrg l fs k) ∧ Hid (Below w.heap.size w wr))
  case atStart => exact ⟨0, Nat.zero_le _, rfl, rfl, by simp [enrg], hid (by go_grown)⟩
  case round =>
    obtain ⟨k, hk, rfl, rfl, rfl, hB⟩ := hrel
    by_cases hlt : k < n
    · obtain ⟨b0, off0, rfl, hbw, x0, x1, x2, x3⟩ := QAt.get (H.out.below hB.out) k hlt
      obtain ⟨b1, off1, rfl, hbw1, hcell⟩ := (H'.out.below hB.out).2 k hlt
      have hp := (goodNet_pipe HG.out (k := k) (by have := HL.out; omega)).2.2.2.2
      have hq := slow_iff.1 HS.out _ (getD_mem' (k := k) (by have := HL'.out; omega))
      obtain ⟨f1, f2, f3⟩ := enrg_fit hp hq
      have f4 := enrg_le HG.out (by have := HL.out; have := HL'.out; omega) HS.out k (by have := HL.out; omega)
      have hw1 := IntWalk.i64_in ((pp l k).2.2.2 * max (fs[k]?.getD 0) (-(fs[k]?.getD 0))) (by omega)
      have hw2 := IntWalk.i64_in ((pp l k).2.2.2 * max (fs[k]?.getD 0) (-(fs[k]?.getD 0)) * fs[k]?.getD 0) (by omega)
      have hw3 := IntWalk.i64_in ((pp l k).2.2.2 * max (fs[k]?.getD 0) (-(fs[k]?.getD 0)) * fs[k]?.getD 0 * fs[k]?.getD 0) (by omega)
      have hw4 := IntWalk.i64_in (enrg l fs k + (pp l k).2.2.2 * max (fs[k]?.getD 0) (-(fs[k]?.getD 0)) * fs[k]?.getD 0 * fs[k]?.getD 0) (by omega)
      go_upto_region 5 with fail
      obtain ⟨X0, -⟩ := bcell (Below.alloc (Below.refl wr.heap.size wr) (Nat.le_refl _) (.cells #[.int .i64 (pp l k).1, .int .i64 (pp l k).2.1, .int .i64 (pp l k).2.2.1, .int .i64 (pp l k).2.2.2] 40))
      have X := hid (show Below w.heap.size w (wr.alloc (.cells #[.int .i64 (pp l k).1, .int .i64 (pp l k).2.1, .int .i64 (pp l k).2.2.1, .int .i64 (pp l k).2.2.2] 40)).drew ∧ (wr.alloc (.cells #[.int .i64 (pp l k).1, .int .i64 (pp l k).2.1, .int .i64 (pp l k).2.2.1, .int .i64 (pp l k).2.2.2] 40)).drew.cell? ⟨wr.heap.size, 3, none⟩ = some (.int .i64 (pp l k).2.2.2) ∧ (wr.alloc (.cells #[.int .i64 (pp l k).1, .int .i64 (pp l k).2.1, .int .i64 (pp l k).2.2.1, .int .i64 (pp l k).2.2.2] 40)).drew.cell? ⟨b1, off1 + k, none⟩ = some (.int .i64 (fs[k]?.getD 0)) from ⟨(hB.out.alloc hB.out.size _).drew, cell_of_row _ _ 3 _ _ (0, 0) (heap_alloc_new _ _), (X0 _ _ (by omega)).trans hcell⟩)
      clear X0 x0 x1 x2 x3 hcell
      refine wp_region_calm (C := (fun w' => Below w.heap.size w w' ∧ w'.cell? ⟨wr.heap.size, 3, none⟩ = some (.int .i64 (pp l k).2.2.2) ∧ w'.cell? ⟨b1, off1 + k, none⟩ = some (.int .i64 (fs[k]?.getD 0)))) (by kernel_rfl) (by kernel_rfl) (X.out) ?_
      repeat
        first
          | go_big_quiet_skip
          | (go_big_quiet_want
             first
               | (unfold Oper.quiet
                  apply Exists.intro
                  refine ⟨fun wq hq => ?_, ?_⟩
                  · (try dsimp only at hq
                     simp [go_sem, Oper.quietAt, Oper.quietUpon, BigFrame.eval_const, BigFrame.eval_global, BigFrame.eval_func, ↓IntWalk.iteOmega, *]
                     first | done | rfl | (refine calm_same hq (i_absOf _ _ (by omega)) rfl))
                  simp only [Act.put, List.setIfInBounds_toArray, List.set_cons_succ, List.set_cons_zero]
                  go_big_quiet_on))
      refine wpQuiet_nil ?_
      intro wc hcalm
      try dsimp only at hcalm
      have HB := hid hcalm.1
      clear hcalm
      clear hw1 hw2 hw3 hw4 X
      go_wp2
      go_roundg (n - (k + 1))
      case rel => exact ⟨k + 1, by omega, rfl, by go_num, by rw [enrg_succ], HB⟩
      case measure => omega
    · obtain rfl : k = n := by omega
      go_wp2
      go_ret
      exact ⟨rfl, hB.out⟩

set_option maxRecDepth 100000 in
set_option maxHeartbeats 2000000 in
theorem s_l9Energy (N : Int) (a b : Option Addr) (n c d : Nat) (l : List Pip) (fs : List Int) (w : World) (h : QAt w a n l) (h' : IntsAt w b n fs) (hg : goodNet N l = true) (hs : slow fs = true) :
    Calls Try.prog 124 #[.agg #[.int .i64 N, .slice a n c], .slice b n d] w fun e w' => e = .returned (.int .i64 (enrg l fs n)) ∧ Below w.heap.size w w' := by
  have H := hid h
  have H' := hid h'
  have HG := hid hg
  have HS := hid hs
  have HL := hid h.1
  have HL' := hid h'.1
  have hn : n ≤ 10 := by have := (goodNet_get hg).2.1; have := h.1; omega
  clear h h' hg hs
  go_enter Try.func124, Try.ntmps124
  go_wp2
  go_loopg [5, 6] n (fun g t i wr => ∃ k : Nat, k ≤ n ∧ g = n - k ∧ i = .int .i64 k ∧ t = .int .i64 (enrg l fs k) ∧ Hid (Below w.heap.size w wr ∧ wr.cell? ⟨w.heap.size, 1, none⟩ = some (.slice a n c)))
  case atStart => exact ⟨0, Nat.zero_le _, rfl, rfl, by simp [enrg], hid ⟨by go_grown, cell_of_row _ _ 1 _ _ (0, 0) (heap_alloc_new _ _)⟩⟩
  case round =>
    obtain ⟨k, hk, rfl, rfl, rfl, hB⟩ := hrel
    by_cases hlt : k < n
    · obtain ⟨b0, off0, rfl, hbw, x0, x1, x2, x3⟩ := QAt.get (H.out.below hB.out.1) k hlt
      obtain ⟨b1, off1, rfl, hbw1, hcell⟩ := (H'.out.below hB.out.1).2 k hlt
      have hp := (goodNet_pipe HG.out (k := k) (by have := HL.out; omega)).2.2.2.2
      have hq := slow_iff.1 HS.out _ (getD_mem' (k := k) (by have := HL'.out; omega))
      obtain ⟨f1, f2, f3⟩ := enrg_fit hp hq
      have f4 := enrg_le HG.out (by have := HL.out; have := HL'.out; omega) HS.out k (by have := HL.out; omega)
      have hw1 := IntWalk.i64_in ((pp l k).2.2.2 * max (fs[k]?.getD 0) (-(fs[k]?.getD 0))) (by omega)
      have hw2 := IntWalk.i64_in ((pp l k).2.2.2 * max (fs[k]?.getD 0) (-(fs[k]?.getD 0)) * fs[k]?.getD 0) (by omega)
      have hw3 := IntWalk.i64_in ((pp l k).2.2.2 * max (fs[k]?.getD 0) (-(fs[k]?.getD 0)) * fs[k]?.getD 0 * fs[k]?.getD 0) (by omega)
      have hw4 := IntWalk.i64_in (enrg l fs k + (pp l k).2.2.2 * max (fs[k]?.getD 0) (-(fs[k]?.getD 0)) * fs[k]?.getD 0 * fs[k]?.getD 0) (by omega)
      go_upto_region 5 with fail
      have X := hid (show Below w.heap.size w wr.drew ∧ wr.drew.cell? ⟨b0, off0 + k * 4 + 3, none⟩ = some (.int .i64 (pp l k).2.2.2) ∧ wr.drew.cell? ⟨b1, off1 + k, none⟩ = some (.int .i64 (fs[k]?.getD 0)) ∧ wr.drew.cell? ⟨w.heap.size, 1, none⟩ = some (.slice (some ⟨b0, off0, none⟩) n c) from ⟨hB.out.1.drew, x3, hcell, hB.out.2⟩)
      clear x0 x1 x2 x3 hcell
      refine wp_region_calm (C := (fun w' => Below w.heap.size w w' ∧ w'.cell? ⟨b0, off0 + k * 4 + 3, none⟩ = some (.int .i64 (pp l k).2.2.2) ∧ w'.cell? ⟨b1, off1 + k, none⟩ = some (.int .i64 (fs[k]?.getD 0)) ∧ w'.cell? ⟨w.heap.size, 1, none⟩ = some (.slice (some ⟨b0, off0, none⟩) n c))) (by kernel_rfl) (by kernel_rfl) (X.out) ?_
      repeat
        first
          | go_big_quiet_skip
          | (go_big_quiet_want
             first
               | (unfold Oper.quiet
                  apply Exists.intro
                  refine ⟨fun wq hq => ?_, ?_⟩
                  · (try dsimp only at hq
                     simp [go_sem, Oper.quietAt, Oper.quietUpon, BigFrame.eval_const, BigFrame.eval_global, BigFrame.eval_func, ↓IntWalk.iteOmega, *]
                     first | done | rfl | (refine calm_same hq (s_l8Abs _ _ (by omega)) rfl))
                  simp only [Act.put, List.setIfInBounds_toArray, List.set_cons_succ, List.set_cons_zero]
                  go_big_quiet_on))
      refine wpQuiet_nil ?_
      intro wc hcalm
      try dsimp only at hcalm
      have HB := hid (show Below w.heap.size w wc ∧ wc.cell? ⟨w.heap.size, 1, none⟩ = some (.slice (some ⟨b0, off0, none⟩) n c) from ⟨hcalm.1, hcalm.2.2.2⟩)
      clear hcalm
      clear hw1 hw2 hw3 hw4 X
      go_wp2
      go_roundg (n - (k + 1))
      case rel => exact ⟨k + 1, by omega, rfl, by go_num, by rw [enrg_succ], HB⟩
      case measure => omega
    · obtain rfl : k = n := by omega
      have n1 := hB.out.2
      have hz0 : w.heap.size < wr.heap.size := World.block_lt_of_cell? wr _ n1
      go_wp2
      go_ret
      exact ⟨rfl, hB.out.1⟩

end Go.Proofs.Ytlnhikhpkcgegaa

/-
  Networks: EnergyOf.
-/
set_option linter.unusedVariables false
set_option linter.unusedSimpArgs false
namespace Go.Proofs.Ytlnhikhpkcgegaa
open Go.RowKit

theorem energyR_no {N : Int} {l : List Pip} {fs : List Int} (h : goodNet N l = false ∨ goodFl l.length fs = false ∨ slow fs = false) : energyR N l fs = (0, false) := by
  unfold energyR
  rw [if_neg]
  rintro ⟨h1, h2, h3⟩
  rcases h with h | h | h
  · rw [h1] at h; cases h
  · rw [h2] at h; cases h
  · rw [h3] at h; cases h

theorem i_EnergyOf (N : Int) (a b : Option Addr) (n c m d : Nat) (l : List Pip) (fs : List Int) (w : World) (h : QAt w a n l) (h' : IntsAt w b m fs) (hn : n ≤ 1048576) (hm : m ≤ 1048576) (x : Int) (y : Bool) (hR : energyR N l fs = (x, y)) :
    Calls Try.prog 45 #[.agg #[.int .i64 N, .slice a n c], .slice b m d] w fun e w' => e = .returned (.tuple #[.int .i64 x, .bool y]) ∧ Below w.heap.size w w' := by
  have hl := h.1
  have H := hid h
  have H' := hid h'
  clear h h'
  by_cases h12 : (goodNet N l && goodFl n fs) = true
  · have HF := hid h12
    have h2 := ((Bool.and_eq_true _ _).mp h12)
    have hmn : m = n := by have := (goodFl_iff.1 h2.2).1; have := H'.out.1; omega
    subst hmn
    have HB8 := hid (goodFl_iff.1 h2.2).2
    cases h3 : slow fs
    · have H3 : Hid ((fs.any fun x => !inR x (-2000) 2000) = true) := hid (by simpa [slow] using h3)
      rw [energyR_no (.inr (.inr h3))] at hR
      cases hR
      clear h12 h2 h3 hl
      go_enter Try.func45, Try.ntmps45
      go_wp2_with fail
      refine (i_isFlowing N _ _ _ _ _ _ l fs _ (H.out.below (by go_grown)) (H'.out.below (by go_grown)) (by omega) (by omega)).mono ?_
      rintro e w1 ⟨rfl, hb1⟩
      rw [HF.out]
      have HB1 := hid (bstep (by go_grown) hb1 : Below w.heap.size w w1)
      go_wp2_with fail
      refine (f_ContainsFunc 120 #[] (fun x => !inR x (-2000) 2000) enters_EnergyOf b m d fs _ (H'.out.below HB1.out) (by omega) (fun x w' hx _ => i_EnergyOf1 x w' (HB8.out x hx))).mono ?_
      rintro e w2 ⟨rfl, hb2⟩
      rw [H3.out]
      go_wp2
      go_ret2
      exact ⟨rfl, bstep HB1.out hb2⟩
    · have H3 : Hid ((fs.any fun x => !inR x (-2000) 2000) = false) := hid (by simpa [slow] using h3)
      have HG := hid h2.1
      have HS := hid h3
      have e0 : energyR N l fs = (enrg l fs m, true) := by
        unfold energyR
        rw [if_pos ⟨h2.1, by rw [hl]; exact h2.2, h3⟩, hl]
      rw [e0] at hR
      cases hR
      clear h12 h2 h3 hl e0
      go_enter Try.func45, Try.ntmps45
      go_wp2_with fail
      refine (i_isFlowing N _ _ _ _ _ _ l fs _ (H.out.below (by go_grown)) (H'.out.below (by go_grown)) (by omega) (by omega)).mono ?_
      rintro e w1 ⟨rfl, hb1⟩
      rw [HF.out]
      obtain ⟨hc_w1, hf_w1⟩ := bcell hb1
      have hz_w1_0 : w.heap.size < w1.heap.size := by have := hb1.size; simp only [World.size_alloc] at this; omega
      have HB1 := hid (bstep (by go_grown) hb1 : Below w.heap.size w w1)
      go_wp2_with fail
      refine (f_ContainsFunc 120 #[] (fun x => !inR x (-2000) 2000) enters_EnergyOf b m d fs _ (H'.out.below HB1.out) (by omega) (fun x w' hx _ => i_EnergyOf1 x w' (HB8.out x hx))).mono ?_
      rintro e w2 ⟨rfl, hb2⟩
      rw [H3.out]
      obtain ⟨hc_w2, hf_w2⟩ := bcell hb2
      have hz_w2_0 : w.heap.size < w2.heap.size := by have := hb2.size; omega
      have HB2 := hid (bstep HB1.out hb2)
      go_wp2_with fail
      refine (i_energyOf N _ _ m _ _ l fs _ (H.out.below HB2.out) (H'.out.below HB2.out) HG.out HS.out).mono ?_
      rintro e w3 ⟨rfl, hb3⟩
      go_wp2
      go_ret2
      exact ⟨rfl, bstep HB2.out hb3⟩
  · have HF := hid (show (goodNet N l && goodFl n fs) = false by simpa using h12)
    have e0 : energyR N l fs = (0, false) := by
      apply energyR_no
      cases h1 : goodNet N l
      · exact .inl rfl
      · have := HF.out; rw [h1] at this; rw [hl]; exact .inr (.inl this)
    rw [e0] at hR
    cases hR
    clear h12 hl e0
    go_enter Try.func45, Try.ntmps45
    go_wp2_with fail
    refine (i_isFlowing N _ _ _ _ _ _ l fs _ (H.out.below (by go_grown)) (H'.out.below (by go_grown)) (by omega) (by omega)).mono ?_
    rintro e w1 ⟨rfl, hb1⟩
    rw [HF.out]
    go_wp2
    go_ret2
    exact ⟨rfl, bstep (by go_grown) hb1⟩

set_option maxHeartbeats 1000000 in
theorem s_EnergyOf (N : Int) (a b : Option Addr) (n c m d : Nat) (l : List Pip) (fs : List Int) (w : World) (h : QAt w a n l) (h' : IntsAt w b m fs) (hn : n ≤ 1048576) (hm : m ≤ 1048576) (x : Int) (y : Bool) (hR : energyR N l fs = (x, y)) :
    Calls Try.prog 46 #[.agg #[.int .i64 N, .slice a n c], .slice b m d] w fun e w' => e = .returned (.tuple #[.int .i64 x, .bool y]) ∧ Below w.heap.size w w' := by
  have hl := h.1
  have H := hid h
  have H' := hid h'
  clear h h'
  cases h1 : goodNet N l
  · have HG := hid h1
    rw [energyR_no (.inl h1)] at hR
    cases hR
    clear h1 hl
    go_enter Try.func46, Try.ntmps46
    go_wp2_with fail
    refine (s_l2Good N _ _ _ l _ (H.out.below (by go_grown)) (by omega)).mono ?_
    rintro e w1 ⟨rfl, hb1⟩
    rw [HG.out]
    obtain ⟨hc_w1, hf_w1⟩ := bcell hb1
    have hz_w1_0 : w.heap.size < w1.heap.size := by have := hb1.size; simp only [World.size_alloc] at this; omega
    have HB1 := hid (bstep (by go_grown) hb1 : Below w.heap.size w w1)
    go_wp2
    go_ret2
    exact ⟨rfl, HB1.out⟩
  · cases h2 : goodFl n fs
    · have HG := hid h1
      have HD := hid h2
      rw [energyR_no (.inr (.inl (by rw [hl]; exact h2)))] at hR
      cases hR
      clear h1 h2 hl
      go_enter Try.func46, Try.ntmps46
      go_wp2_with fail
      refine (s_l2Good N _ _ _ l _ (H.out.below (by go_grown)) (by omega)).mono ?_
      rintro e w1 ⟨rfl, hb1⟩
      rw [HG.out]
      obtain ⟨hc_w1, hf_w1⟩ := bcell hb1
      have hz_w1_0 : w.heap.size < w1.heap.size := by have := hb1.size; simp only [World.size_alloc] at this; omega
      have HB1 := hid (bstep (by go_grown) hb1 : Below w.heap.size w w1)
      go_wp2_with fail
      refine (s_l8Flows N _ _ n _ _ _ fs _ (H'.out.below HB1.out) hm).mono ?_
      rintro e w2 ⟨rfl, hb2⟩
      rw [HD.out]
      go_wp2
      go_ret2
      exact ⟨rfl, bstep HB1.out hb2⟩
    · have hmn : m = n := by have := (goodFl_iff.1 h2).1; have := H'.out.1; omega
      subst hmn
      have HG := hid h1
      have HD := hid h2
      have HL := hid hl
      have HL' := hid H'.out.1
      have HR := hid hR
      clear h1 h2 hl hR
      go_enter Try.func46, Try.ntmps46
      go_wp2_with fail
      refine (s_l2Good N _ _ _ l _ (H.out.below (by go_grown)) (by omega)).mono ?_
      rintro e w1 ⟨rfl, hb1⟩
      rw [HG.out]
      obtain ⟨hc_w1, hf_w1⟩ := bcell hb1
      have hz_w1_0 : w.heap.size < w1.heap.size := by have := hb1.size; simp only [World.size_alloc] at this; omega
      have HB1 := hid (bstep (by go_grown) hb1 : Below w.heap.size w w1)
      go_wp2_with fail
      refine (s_l8Flows N _ _ m _ _ _ fs _ (H'.out.below HB1.out) hm).mono ?_
      rintro e w2 ⟨rfl, hb2⟩
      rw [HD.out]
      obtain ⟨hc_w2, hf_w2⟩ := bcell hb2
      have hz_w2_0 : w.heap.size < w2.heap.size := by have := hb2.size; omega
      have HB2 := hid (bstep HB1.out hb2)
      have n0 : w2.cell? ⟨w.heap.size, 0, none⟩ = some (.int .i64 N) := by rw [hc_w2 _ _ hz_w1_0, hc_w1 _ _ (by simp)]; exact cell_of_row _ _ 0 _ _ (0, 0) (heap_alloc_new _ _)
      have n1 : w2.cell? ⟨w.heap.size, 1, none⟩ = some (.slice a m c) := by rw [hc_w2 _ _ hz_w1_0, hc_w1 _ _ (by simp)]; exact cell_of_row _ _ 1 _ _ (0, 0) (heap_alloc_new _ _)
      clear hc_w1 hf_w1 hc_w2 hf_w2 hb1 hb2
      go_wp2
      go_loopg [6] m (fun g i wr => ∃ k : Nat, k ≤ m ∧ g = m - k ∧ i = .int .i64 k ∧ w2 = wr ∧ Hid (∀ x ∈ fs.take k, -2000 ≤ x ∧ x ≤ 2000))
      case atStart => exact ⟨0, Nat.zero_le _, rfl, rfl, rfl, hid (fun x hx => by simp at hx)⟩
      case round =>
        obtain ⟨k, hk, rfl, rfl, rfl, hh⟩ := hrel
        by_cases hlt : k < m
        · obtain ⟨b1, off1, rfl, hbw1, hcell⟩ := (H'.out.below HB2.out).2 k hlt
          cases hx : inR (fs[k]?.getD 0) (-2000) 2000
          · have HX := hid hx
            have hs : slow fs = false := by
              cases e : slow fs
              · rfl
              · have := slow_iff.1 e _ (getD_mem' (k := k) (by have := HL'.out; omega))
                rw [inR_iff.2 this] at hx
                cases hx
            have hR := HR.out
            rw [energyR_no (.inr (.inr hs))] at hR
            cases hR
            clear hx hs
            go_wp2_with fail
            refine (s_l1In _ _ _ _).mono ?_
            rintro e _ ⟨rfl, rfl⟩
            rw [HX.out]
            go_wp2
            go_ret2
            exact ⟨rfl, HB2.out⟩
          · have HX := hid hx
            have hx2 := inR_iff.1 hx
            clear hx
            go_wp2_with fail
            refine (s_l1In _ _ _ _).mono ?_
            rintro e _ ⟨rfl, rfl⟩
            rw [HX.out]
            go_wp2
            go_roundg (m - (k + 1))
            case rel =>
              refine ⟨k + 1, by omega, rfl, by go_num, rfl, hid ?_⟩
              intro x hx
              rw [take_succ' fs k (by have := HL'.out; omega), List.mem_append, List.mem_singleton] at hx
              rcases hx with hx | rfl
              · exact hh.out x hx
              · exact hx2
            case measure => omega
        · obtain rfl : m = k := by omega
          have hall : fs.take m = fs := List.take_of_length_le (by have := HL'.out; omega)
          have hs : slow fs = true := slow_iff.2 (hall ▸ hh.out)
          have HS := hid hs
          have hR := HR.out
          have e0 : energyR N l fs = (enrg l fs m, true) := by
            unfold energyR
            rw [if_pos ⟨HG.out, by rw [HL.out]; exact HD.out, hs⟩, HL.out]
          rw [e0] at hR
          cases hR
          clear hall hs e0
          go_wp2_with fail
          refine (s_l9Energy N _ _ m _ _ l fs _ (H.out.below HB2.out) (H'.out.below HB2.out) HG.out HS.out).mono ?_
          rintro e w3 ⟨rfl, hb3⟩
          go_wp2
          go_ret2
          exact ⟨rfl, bstep HB2.out hb3⟩

end Go.Proofs.Ytlnhikhpkcgegaa

/-
  Networks: LossOf.
-/
set_option linter.unusedVariables false
set_option linter.unusedSimpArgs false
namespace Go.Proofs.Ytlnhikhpkcgegaa
open Go.RowKit

theorem lossR_no {N : Int} {l : List Pip} {fs : List Int} {id : Int} (h : goodNet N l = false ∨ goodFl l.length fs = false ∨ findQ l id = -1) : lossR N l fs id = (0, false) := by
  unfold lossR
  rw [if_neg]
  rintro ⟨h1, h2, h3⟩
  rcases h with h | h | h
  · rw [h1] at h; cases h
  · rw [h2] at h; cases h
  · omega

abbrev NetB (w : World) (N : Int) (s : Value) (w' : World) : Prop := Below w.heap.size w w' ∧ w'.cell? ⟨w.heap.size, 0, none⟩ = some (.int .i64 N) ∧ w'.cell? ⟨w.heap.size, 1, none⟩ = some s
theorem NetB.keep (w : World) (N : Int) (s : Value) (wy w5 : World) (h : NetB w N s wy) (hb : Below wy.heap.size wy w5) : NetB w N s w5 :=
  let ⟨h0, x0, x1⟩ := h
  ⟨bstep h0 hb, (hb.cell (World.block_lt_of_cell? wy _ x0)).trans x0, (hb.cell (World.block_lt_of_cell? wy _ x1)).trans x1⟩

set_option maxRecDepth 100000 in
set_option maxHeartbeats 2000000 in
theorem i_LossOf (N : Int) (a b : Option Addr) (n c m d : Nat) (l : List Pip) (fs : List Int) (q : Int) (w : World) (h : QAt w a n l) (h' : IntsAt w b m fs) (hn : n ≤ 1048576) (hm : m ≤ 1048576) (x : Int) (y : Bool) (hR : lossR N l fs q = (x, y)) :
    Calls Try.prog 34 #[.agg #[.int .i64 N, .slice a n c], .slice b m d, .int .i64 q] w fun e w' => e = .returned (.tuple #[.int .i64 x, .bool y]) ∧ Below w.heap.size w w' := by
  have hl := h.1
  have H := hid h
  have H' := hid h'
  clear h h'
  by_cases h12 : (goodNet N l && goodFl n fs) = true
  · have HF := hid h12
    have h2 := ((Bool.and_eq_true _ _).mp h12)
    have hmn : m = n := by have := (goodFl_iff.1 h2.2).1; have := H'.out.1; omega
    subst hmn
    rcases findQ_cases l q with h3 | ⟨k, hk, h3⟩
    · have H3 := hid h3
      rw [lossR_no (.inr (.inr h3))] at hR
      cases hR
      clear h12 h2 h3 hl
      go_enter Try.func34, Try.ntmps34
      go_wp2_with fail
      refine (i_isFlowing N _ _ _ _ _ _ l fs _ (H.out.below (by go_grown)) (H'.out.below (by go_grown)) (by omega) (by omega)).mono ?_
      rintro e w1 ⟨rfl, hb1⟩
      rw [HF.out]
      obtain ⟨hc_w1, hf_w1⟩ := bcell hb1
      have hz_w1_0 : w.heap.size < w1.heap.size := by have := hb1.size; simp only [World.size_alloc] at this; omega
      have HB1 := hid (bstep (by go_grown) hb1 : Below w.heap.size w w1)
      go_wp2_with fail
      refine (i_pipeIndex N q _ _ _ l _ (H.out.below HB1.out) (by omega)).mono ?_
      rintro e w2 ⟨rfl, hb2⟩
      rw [H3.out]
      go_wp2
      go_ret2
      exact ⟨rfl, bstep HB1.out hb2⟩
    · have H3 := hid h3
      have HG := hid h2.1
      have HS := hid h2.2
      have e0 : lossR N l fs q = (loss l fs k, true) := by
        unfold lossR
        rw [if_pos ⟨h2.1, by rw [hl]; exact h2.2, by omega⟩, h3]
        rfl
      rw [e0] at hR
      cases hR
      have hkm : k < m := by omega
      have hk0 : ¬ ((k : Int) < 0) := by omega
      clear h12 h2 h3 hl e0
      go_enter Try.func34, Try.ntmps34
      go_wp2_with fail
      refine (i_isFlowing N _ _ _ _ _ _ l fs _ (H.out.below (by go_grown)) (H'.out.below (by go_grown)) (by omega) (by omega)).mono ?_
      rintro e w1 ⟨rfl, hb1⟩
      rw [HF.out]
      obtain ⟨hc_w1, hf_w1⟩ := bcell hb1
      have hz_w1_0 : w.heap.size < w1.heap.size := by have := hb1.size; simp only [World.size_alloc] at this; omega
      have HB1 := hid (bstep (by go_grown) hb1 : Below w.heap.size w w1)
      go_wp2_with fail
      refine (i_pipeIndex N q _ _ _ l _ (H.out.below HB1.out) (by omega)).mono ?_
      rintro e w2 ⟨rfl, hb2⟩
      rw [H3.out]
      have HB2 := hid (bstep HB1.out hb2)
      have n0 : w2.cell? ⟨w.heap.size, 0, none⟩ = some (.int .i64 N) := by rw [(bcell hb2).1 _ _ hz_w1_0, hc_w1 _ _ (by simp)]; exact cell_of_row _ _ 0 _ _ (0, 0) (heap_alloc_new _ _)
      have n1 : w2.cell? ⟨w.heap.size, 1, none⟩ = some (.slice a m c) := by rw [(bcell hb2).1 _ _ hz_w1_0, hc_w1 _ _ (by simp)]; exact cell_of_row _ _ 1 _ _ (0, 0) (heap_alloc_new _ _)
      have X := hid (show NetB w N (.slice a m c) w2.drew from ⟨HB2.out.drew, n0, n1⟩)
      clear hb1 hb2 hc_w1 hf_w1 n0 n1
      go_upto_region 3 with fail
      refine wp_region_calm (C := (fun w' => Below w.heap.size w w' ∧ w'.cell? ⟨w.heap.size, 0, none⟩ = some (.int .i64 N) ∧ w'.cell? ⟨w.heap.size, 1, none⟩ = some (.slice a m c))) (by kernel_rfl) (by kernel_rfl) (X.out) ?_
      repeat
        first
          | go_big_quiet_skip
          | (go_big_quiet_want
             first
               | (unfold Oper.quiet
                  apply Exists.intro
                  refine ⟨fun wq hq => ?_, ?_⟩
                  · (try dsimp only at hq
                     simp [go_sem, Oper.quietAt, Oper.quietUpon, BigFrame.eval_const, BigFrame.eval_global, BigFrame.eval_func, ↓IntWalk.iteOmega, *]
                     first | done | rfl | (first | (refine calm_call hq (NetB.keep w N _) (i_pipeIndex N q _ _ _ l _ (H.out.below hq.1) (by omega)) (by rw [H3.out])) | (refine calm_call hq (NetB.keep w N _) (i_lossOf N _ _ _ _ _ k l fs _ (H.out.below hq.1) (H'.out.below hq.1) HG.out HS.out hkm) rfl)))
                  simp only [Act.put, List.setIfInBounds_toArray, List.set_cons_succ, List.set_cons_zero]
                  go_big_quiet_on))
      refine wpQuiet_nil ?_
      intro wc hcalm
      try dsimp only at hcalm
      have HC := hid hcalm.1
      clear hcalm
      go_wp2
      go_ret2
      exact ⟨rfl, HC.out⟩
  · have HF := hid (show (goodNet N l && goodFl n fs) = false by simpa using h12)
    have e0 : lossR N l fs q = (0, false) := by
      apply lossR_no
      cases h1 : goodNet N l
      · exact .inl rfl
      · have := HF.out; rw [h1] at this; rw [hl]; exact .inr (.inl this)
    rw [e0] at hR
    cases hR
    clear h12 hl e0
    go_enter Try.func34, Try.ntmps34
    go_wp2_with fail
    refine (i_isFlowing N _ _ _ _ _ _ l fs _ (H.out.below (by go_grown)) (H'.out.below (by go_grown)) (by omega) (by omega)).mono ?_
    rintro e w1 ⟨rfl, hb1⟩
    rw [HF.out]
    go_wp2
    go_ret2
    exact ⟨rfl, bstep (by go_grown) hb1⟩

end Go.Proofs.Ytlnhikhpkcgegaa

