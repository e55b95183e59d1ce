/-
  Pressures: heights; the heads with the heights taken off.
-/
import Derived.Test.YthhogblnndmenaaHeadF
set_option linter.unusedVariables false
set_option linter.unusedSimpArgs false
namespace Go.Proofs.Ythhogblnndmenaa
open Go.RowKit

def goodHt (N : Int) (l : List Int) : Bool := decide ((l.length : Int) = N) && !l.any (fun x => !inR x 0 100000000000)
theorem goodHt_iff {N : Int} {l : List Int} : goodHt N l = true ↔ (l.length : Int) = N ∧ ∀ x ∈ l, 0 ≤ x ∧ x ≤ 100000000000 := by simp only [goodHt, Bool.and_eq_true, decide_eq_true_eq, Bool.not_eq_true', any_in]
theorem enters_i_areHeights : enters 119 := by intro args w; kernel_rfl
theorem i_areHeights1 (x : Int) (w : World) : Calls Try.prog 119 #[.int .i64 x] w fun e w' => e = .returned (.bool (!inR x 0 100000000000)) ∧ Below w.heap.size w w' := by
  go_enter Try.func119, Try.ntmps119
  go_wp2_with fail
  refine (i_isHead _ _).mono ?_
  rintro e w' ⟨rfl, rfl⟩
  go_wp2
  go_ret
  exact ⟨rfl, by go_grown⟩
theorem i_areHeights (N : Int) (a b : Option Addr) (n c m d : Nat) (l : List Int) (w : World) (h : IntsAt w b m l) (hm : m ≤ 1048576) :
    Calls Try.prog 86 #[.agg #[.int .i64 N, .slice a n c], .slice b m d] w fun e w' => e = .returned (.bool (goodHt N l)) ∧ Below w.heap.size w w' := by
  have hl := h.1
  have H := hid h
  clear h
  by_cases h1 : (m : Int) = N
  · have E := hid (show (!l.any (fun x => !inR x 0 100000000000)) = goodHt N l by simp [goodHt, hl, h1])
    clear hl
    skip
    go_enter Try.func86, Try.ntmps86
    go_wp2_with fail
    refine (f_ContainsFunc 119 #[] (fun x => !inR x 0 100000000000) enters_i_areHeights b m d l _ (H.out.below (by go_grown)) (by omega) (fun x w' _ _ => i_areHeights1 x w')).mono ?_
    rintro e w1 ⟨rfl, hb1⟩
    go_wp2
    go_ret
    exact ⟨ret_bool E.out, bstep (by go_grown) hb1⟩
  · have E := hid (show false = goodHt N l by simp [goodHt, hl, h1])
    go_enter Try.func86, Try.ntmps86
    go_wp2
    go_ret
    exact ⟨ret_bool E.out, by go_grown⟩
set_option maxHeartbeats 1000000 in
theorem s_l9Heights (N : Int) (a b : Option Addr) (n c m d : Nat) (l : List Int) (w : World) (h : IntsAt w b m l) (hm : m ≤ 1048576) :
    Calls Try.prog 82 #[.agg #[.int .i64 N, .slice a n c], .slice b m d] w fun e w' => e = .returned (.bool (goodHt N l)) ∧ Below w.heap.size w w' := by
  have H := hid h
  have HL := hid h.1
  clear h
  go_enter Try.func82, Try.ntmps82
  go_wp2
  go_loopg [5] m (fun g i wr => ∃ k : Nat, k ≤ m ∧ g = m - k ∧ i = .int .i64 k ∧ wr = w.alloc (.cells #[.int .i64 N, .slice a n c] 31) ∧ Hid (∀ x ∈ l.take k, 0 ≤ x ∧ x ≤ 100000000000))
  case atStart => exact ⟨0, Nat.zero_le _, rfl, rfl, rfl, hid (fun x hx => by simp at hx)⟩
  case round =>
    obtain ⟨k, hk, rfl, rfl, rfl, hh⟩ := hrel
    by_cases hlt : k < m
    · obtain ⟨b1, off, rfl, hbw, hcell⟩ := (H.out.below ((Below.refl _ _).alloc (Nat.le_refl _) (.cells #[.int .i64 N, .slice a n c] 31))).2 k hlt
      cases hx : inR (l[k]?.getD 0) 0 100000000000
      · have HX := hid hx
        clear hx
        go_wp2_with fail
        refine (s_l9Head _ _).mono ?_
        rintro e _ ⟨rfl, rfl⟩
        rw [HX.out]
        go_wp2
        go_ret
        refine ⟨ret_bool ?_, by go_grown⟩
        have : goodHt N l ≠ true := fun e => by
          simp only [goodHt, Bool.and_eq_true, Bool.not_eq_true', any_in] at e
          have h2 := e.2 _ (getD_mem' (k := k) (by have := HL.out; omega))
          rw [inR_iff.2 h2] at HX
          exact absurd HX.out (by simp)
        simpa using this.symm
      · have HX := hid hx
        have hx2 := inR_iff.1 hx
        clear hx
        go_wp2_with fail
        refine (s_l9Head _ _).mono ?_
        rintro e _ ⟨rfl, rfl⟩
        rw [HX.out]
        go_wp2
        go_roundg (m - (k + 1))
        case rel =>
          refine ⟨k + 1, by omega, rfl, by go_num, rfl, hid ?_⟩
          intro x hx
          rw [take_succ' l k (by have := HL.out; omega), List.mem_append, List.mem_singleton] at hx
          rcases hx with hx | rfl
          · exact hh.out x hx
          · exact hx2
        case measure => omega
    · obtain rfl : m = k := by omega
      have hall : l.take m = l := List.take_of_length_le (by have := HL.out; omega)
      have ha : ∀ x ∈ l, 0 ≤ x ∧ x ≤ 100000000000 := hall ▸ hh.out
      have hl := HL.out
      by_cases h1 : (m : Int) = N
      · have E := hid (show true = goodHt N l by first | exact (goodHt_iff.2 ⟨by omega, ha⟩).symm | exact (goodHt_iff.2 ⟨by omega, ha⟩).symm)
        clear hall ha hl
        go_wp2
        go_ret
        exact ⟨ret_bool (by first | exact E.out | (rw [← E.out]; simp; omega)), by go_grown⟩
      · have E := hid (show false = goodHt N l by first | exact (Bool.eq_false_iff.2 fun e => h1 (by have := (goodHt_iff.1 e).1; omega)).symm | exact (Bool.eq_false_iff.2 fun e => h1 (by have := (goodHt_iff.1 e).1; omega)).symm)
        clear hall ha hl
        go_wp2
        go_ret
        exact ⟨ret_bool (by first | exact E.out | (rw [← E.out]; simp; omega)), by go_grown⟩

/-- The heights taken off, from the first place on. -/
def prs (L hs : List Int) : Nat → List Int
  | 0 => L
  | k + 1 => (prs L hs k).set k (L[k]?.getD 0 - hs[k]?.getD 0)
theorem prs_len (L hs : List Int) : ∀ k, (prs L hs k).length = L.length
  | 0 => rfl
  | k + 1 => by unfold prs; rw [List.length_set, prs_len L hs k]
theorem prs_get (L hs : List Int) : ∀ (k j : Nat), k ≤ j → (prs L hs k)[j]?.getD 0 = L[j]?.getD 0
  | 0, j, _ => rfl
  | k + 1, j, h => by
    unfold prs
    rw [List.getElem?_set_ne (by omega)]
    exact prs_get L hs k j (by omega)
theorem headAt_fit {M : Nat} {l : List Pip} {fs : List Int} {s v hd : Int} (hg : goodNet M l = true) (hf : goodFl l.length fs = true) (hs : 1 ≤ s ∧ s ≤ M) (hv : 1 ≤ v ∧ v ≤ M) (hh : 0 ≤ hd ∧ hd ≤ 100000000000) : -4608000000 ≤ headAt l fs s hd v ∧ headAt l fs s hd v ≤ 104608000000 := by
  have hM := (goodNet_get hg).1
  unfold headAt
  by_cases h0 : 0 ≤ far l 0 v s
  · have := lsum_fit (t := v) (v0 := s) hg hf hs.1 hs.2 (far l 0 v s).toNat (by omega)
    have hlt := far_lt (wo := 0) (v := s) hg hv hs.1 hs.2
    omega
  · have e : (far l 0 v s).toNat = 0 := by omega
    rw [e]
    simp [lsum]
    omega
theorem headL_fit {M : Nat} {l : List Pip} {fs : List Int} {s hd : Int} (hg : goodNet M l = true) (hf : goodFl l.length fs = true) (hs : 1 ≤ s ∧ s ≤ M) (hh : 0 ≤ hd ∧ hd ≤ 100000000000) : ∀ k, k < M → -4608000000 ≤ (headL l fs s hd M)[k]?.getD 0 ∧ (headL l fs s hd M)[k]?.getD 0 ≤ 104608000000 := fun k hk => by
  have e : (headL l fs s hd M)[k]?.getD 0 = headAt l fs s hd ((k : Int) + 1) := by simp [headL, hk]
  rw [e]
  exact headAt_fit hg hf hs (by omega) hh

set_option maxRecDepth 100000 in
set_option maxHeartbeats 4000000 in
theorem i_pressuresOf (M s : Nat) (hd0 : Int) (a p q : Option Addr) (n c d e0 : Nat) (l : List Pip) (ds hs0 : List Int) (w : World) (h : QAt w a n l) (h' : IntsAt w p M ds) (h'' : IntsAt w q M hs0) (hg : goodNet M l = true) (hs : 1 ≤ s ∧ s ≤ M) (hd : ∀ x ∈ ds, 0 ≤ x ∧ x ≤ 1000) (ht : treeB M l = true) (hh0 : 0 ≤ hd0 ∧ hd0 ≤ 100000000000) (hh1 : ∀ x ∈ hs0, 0 ≤ x ∧ x ≤ 100000000000) :
    Calls Try.prog 88 #[.agg #[.int .i64 M, .slice a n c], .int .i64 s, .slice p M d, .int .i64 hd0, .slice q M e0] w fun e w' => ∃ a' c', e = .returned (.slice a' M c') ∧ OwnI w' w.heap.size (.slice a' M c') (prs (headL l (tflows M l s ds n) s hd0 M) hs0 M) ∧ Below w.heap.size w w' := by
  have hM : M ≤ 8 := by have := (goodNet_get hg).1; omega
  have hn : n ≤ 10 := by have := (goodNet_get hg).2.1; have := h.1; omega
  have H := hid h
  have H' := hid h'
  have H'' := hid h''
  have HHL := hid h''.1
  have HG := hid hg
  have HD := hid hd
  have HT := hid ht
  have HH := hid hh1
  obtain ⟨L, hL⟩ : ∃ L, headL l (tflows M l s ds n) s hd0 M = L := ⟨_, rfl⟩
  have HL := hid hL
  have HF := hid (show ∀ k, k < M → -4608000000 ≤ L[k]?.getD 0 ∧ L[k]?.getD 0 ≤ 104608000000 from by
    rw [← hL]
    exact headL_fit hg (by rw [h.1]; exact tflows_good hM h'.1 hd) (show 1 ≤ (s : Int) ∧ (s : Int) ≤ M by omega) hh0)
  rw [hL]
  clear h h' h'' hg hd ht hh1 hL
  go_enter Try.func88, Try.ntmps88
  go_wp2_with fail
  refine (i_headsOf M s hd0 _ _ n _ _ l ds _ (H.out.below (by go_grown)) (H'.out.below (by go_grown)) HG.out hs HD.out HT.out hh0).mono ?_
  rintro e w1 ⟨a1, c1, rfl, ho1, hb1⟩
  rw [HL.out] at ho1
  obtain ⟨g1, rfl, hg1, hg2⟩ := own_some ho1 (by omega)
  simp only [World.size_alloc] at hg1 ho1
  have HO1 := hid ho1
  have HB1 := hid (bstep (by go_grown) hb1 : Below w.heap.size w w1)
  clear ho1 hb1
  go_wp2
  go_loopg [21] M (fun g i wr => ∃ k : Nat, k ≤ M ∧ g = M - k ∧ i = .int .i64 k ∧ Hid (OwnI wr w.heap.size (.slice (some ⟨g1, 0, none⟩) M c1) (prs L hs0 k) ∧ Below w.heap.size w wr))
  case atStart => exact ⟨0, Nat.zero_le _, rfl, rfl, hid ⟨HO1.out.mono (by omega), HB1.out⟩⟩
  case round =>
    obtain ⟨k, hk, rfl, rfl, hW⟩ := hrel
    by_cases hlt : k < M
    · obtain ⟨b1, off1, e1, hb1w, hc1⟩ := (H''.out.below hW.out.2).2 k hlt
      subst e1
      have ho := hW.out.1.cell (k := k) hlt
      have hz := hW.out.1.frozen (k := k)
      rw [prs_get L hs0 k k (Nat.le_refl _)] at ho
      have hb0 := HF.out k hlt
      have hb2 := HH.out _ (getD_mem hs0 k (by have := HHL.out; omega))
      have hw9 := IntWalk.i64_in (L[k]?.getD 0 - hs0[k]?.getD 0) (by omega)
      have SS := hid (hW.out.1.set (k := k) (L[k]?.getD 0 - hs0[k]?.getD 0))
      go_wp2
      go_roundg (M - (k + 1))
      case rel => exact ⟨k + 1, by omega, rfl, by go_num, hid ⟨SS.out.1, hW.out.2.setCell (by show w.heap.size ≤ g1; omega) _⟩⟩
      case measure => omega
    · obtain rfl : k = M := by omega
      go_wp2
      go_ret
      exact ⟨_, _, rfl, hW.out.1, hW.out.2⟩

set_option maxRecDepth 100000 in
set_option maxHeartbeats 4000000 in
theorem s_l9Pressures (M s : Nat) (hd0 : Int) (a p q : Option Addr) (n c d e0 : Nat) (l : List Pip) (ds hs0 : List Int) (w : World) (h : QAt w a n l) (h' : IntsAt w p M ds) (h'' : IntsAt w q M hs0) (hg : goodNet M l = true) (hs : 1 ≤ s ∧ s ≤ M) (hd : ∀ x ∈ ds, 0 ≤ x ∧ x ≤ 1000) (ht : treeB M l = true) (hc : n ≤ c) (hh0 : 0 ≤ hd0 ∧ hd0 ≤ 100000000000) (hh1 : ∀ x ∈ hs0, 0 ≤ x ∧ x ≤ 100000000000) :
    Calls Try.prog 84 #[.agg #[.int .i64 M, .slice a n c], .int .i64 s, .slice p M d, .int .i64 hd0, .slice q M e0] w fun e w' => ∃ a' c', e = .returned (.slice a' M c') ∧ OwnI w' w.heap.size (.slice a' M c') (prs (headL l (tflows M l s ds n) s hd0 M) hs0 M) ∧ Below w.heap.size w w' := by
  have hM : M ≤ 8 := by have := (goodNet_get hg).1; omega
  have hn : n ≤ 10 := by have := (goodNet_get hg).2.1; have := h.1; omega
  have H := hid h
  have H' := hid h'
  have H'' := hid h''
  have HHL := hid h''.1
  have HG := hid hg
  have HD := hid hd
  have HT := hid ht
  have HH := hid hh1
  obtain ⟨L, hL⟩ : ∃ L, headL l (tflows M l s ds n) s hd0 M = L := ⟨_, rfl⟩
  have HL := hid hL
  have HF := hid (show ∀ k, k < M → -4608000000 ≤ L[k]?.getD 0 ∧ L[k]?.getD 0 ≤ 104608000000 from by
    rw [← hL]
    exact headL_fit hg (by rw [h.1]; exact tflows_good hM h'.1 hd) (show 1 ≤ (s : Int) ∧ (s : Int) ≤ M by omega) hh0)
  rw [hL]
  clear h h' h'' hg hd ht hh1 hL
  go_enter Try.func84, Try.ntmps84
  go_wp2_with fail
  refine (s_l9Heads M s hd0 _ _ n _ _ l ds _ (H.out.below (by go_grown)) (H'.out.below (by go_grown)) HG.out hs HD.out HT.out hc hh0).mono ?_
  rintro e w1 ⟨a1, c1, rfl, ho1, hb1⟩
  rw [HL.out] at ho1
  obtain ⟨g1, rfl, hg1, hg2⟩ := own_some ho1 (by omega)
  simp only [World.size_alloc] at hg1 ho1
  have HO1 := hid ho1
  have HB1 := hid (bstep (by go_grown) hb1 : Below w.heap.size w w1)
  clear ho1 hb1
  go_wp2
  go_loopg [12] M (fun g i wr => ∃ k : Nat, k ≤ M ∧ g = M - k ∧ i = .int .i64 k ∧ Hid (OwnI wr w.heap.size (.slice (some ⟨g1, 0, none⟩) M c1) (prs L hs0 k) ∧ Below w.heap.size w wr))
  case atStart => exact ⟨0, Nat.zero_le _, rfl, rfl, hid ⟨HO1.out.mono (by omega), HB1.out⟩⟩
  case round =>
    obtain ⟨k, hk, rfl, rfl, hW⟩ := hrel
    by_cases hlt : k < M
    · obtain ⟨b1, off1, e1, hb1w, hc1⟩ := (H''.out.below hW.out.2).2 k hlt
      subst e1
      have ho := hW.out.1.cell (k := k) hlt
      have hz := hW.out.1.frozen (k := k)
      rw [prs_get L hs0 k k (Nat.le_refl _)] at ho
      have hb0 := HF.out k hlt
      have hb2 := HH.out _ (getD_mem hs0 k (by have := HHL.out; omega))
      have hw9 := IntWalk.i64_in (L[k]?.getD 0 - hs0[k]?.getD 0) (by omega)
      go_upto_region 5 with fail
      go_region_law fail
      all_goals
        have SS := hid (hW.out.1.set (k := k) (L[k]?.getD 0 - hs0[k]?.getD 0))
        go_wp2
        go_roundg (M - (k + 1))
        case rel => exact ⟨k + 1, by omega, rfl, by go_num, hid ⟨SS.out.1, hW.out.2.drew.setCell (by show w.heap.size ≤ g1; omega) _⟩⟩
        case measure => omega
    · obtain rfl : k = M := by omega
      go_wp2
      go_ret
      exact ⟨_, _, rfl, hW.out.1, hW.out.2⟩

end Go.Proofs.Ythhogblnndmenaa
