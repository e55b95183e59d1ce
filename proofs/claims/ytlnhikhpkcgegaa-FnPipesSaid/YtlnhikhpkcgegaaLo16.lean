/-
  Texts of this claim, joined: Press, PressF, Weak.
-/
import Derived.Test.YtlnhikhpkcgegaaLo15
/-
  Pressures: heights; the heads with the heights taken off.
-/
set_option linter.unusedVariables false
set_option linter.unusedSimpArgs false
namespace Go.Proofs.Ytlnhikhpkcgegaa
open Go.RowKit

def goodHt (N : Int) (l : List Int) : Bool := decide ((l.length : Int) = N) && !l.any (fun x => !inR x 0 100000000000)
theorem goodHt_iff {N : Int} {l : List Int} : goodHt N l = true ↔ (l.length : Int) = N ∧ ∀ x ∈ l, 0 ≤ x ∧ x ≤ 100000000000 := by simp only [goodHt, Bool.and_eq_true, decide_eq_true_eq, Bool.not_eq_true', any_in]
theorem enters_i_areHeights : enters 159 := by intro args w; kernel_rfl
theorem i_areHeights1 (x : Int) (w : World) : Calls Try.prog 159 #[.int .i64 x] w fun e w' => e = .returned (.bool (!inR x 0 100000000000)) ∧ Below w.heap.size w w' := by
  go_enter Try.func159, Try.ntmps159
  go_wp2_with fail
  refine (i_isHead _ _).mono ?_
  rintro e w' ⟨rfl, rfl⟩
  go_wp2
  go_ret
  exact ⟨rfl, by go_grown⟩
theorem i_areHeights (N : Int) (a b : Option Addr) (n c m d : Nat) (l : List Int) (w : World) (h : IntsAt w b m l) (hm : m ≤ 1048576) :
    Calls Try.prog 110 #[.agg #[.int .i64 N, .slice a n c], .slice b m d] w fun e w' => e = .returned (.bool (goodHt N l)) ∧ Below w.heap.size w w' := by
  have hl := h.1
  have H := hid h
  clear h
  by_cases h1 : (m : Int) = N
  · have E := hid (show (!l.any (fun x => !inR x 0 100000000000)) = goodHt N l by simp [goodHt, hl, h1])
    clear hl
    skip
    go_enter Try.func110, Try.ntmps110
    go_wp2_with fail
    refine (f_ContainsFunc 159 #[] (fun x => !inR x 0 100000000000) enters_i_areHeights b m d l _ (H.out.below (by go_grown)) (by omega) (fun x w' _ _ => i_areHeights1 x w')).mono ?_
    rintro e w1 ⟨rfl, hb1⟩
    go_wp2
    go_ret
    exact ⟨ret_bool E.out, bstep (by go_grown) hb1⟩
  · have E := hid (show false = goodHt N l by simp [goodHt, hl, h1])
    go_enter Try.func110, Try.ntmps110
    go_wp2
    go_ret
    exact ⟨ret_bool E.out, by go_grown⟩
set_option maxHeartbeats 1000000 in
theorem s_l9Heights (N : Int) (a b : Option Addr) (n c m d : Nat) (l : List Int) (w : World) (h : IntsAt w b m l) (hm : m ≤ 1048576) :
    Calls Try.prog 113 #[.agg #[.int .i64 N, .slice a n c], .slice b m d] w fun e w' => e = .returned (.bool (goodHt N l)) ∧ Below w.heap.size w w' := by
  have H := hid h
  have HL := hid h.1
  clear h
  go_enter Try.func113, Try.ntmps113
  go_wp2
  go_loopg [5] m (fun g i wr => ∃ k : Nat, k ≤ m ∧ g = m - k ∧ i = .int .i64 k ∧ wr = w.alloc (.cells #[.int .i64 N, .slice a n c] 26) ∧ Hid (∀ x ∈ l.take k, 0 ≤ x ∧ x ≤ 100000000000))
  case atStart => exact ⟨0, Nat.zero_le _, rfl, rfl, rfl, hid (fun x hx => by simp at hx)⟩
  case round =>
    obtain ⟨k, hk, rfl, rfl, rfl, hh⟩ := hrel
    by_cases hlt : k < m
    · obtain ⟨b1, off, rfl, hbw, hcell⟩ := (H.out.below ((Below.refl _ _).alloc (Nat.le_refl _) (.cells #[.int .i64 N, .slice a n c] 26))).2 k hlt
      cases hx : inR (l[k]?.getD 0) 0 100000000000
      · have HX := hid hx
        clear hx
        go_wp2_with fail
        refine (s_l9Head _ _).mono ?_
        rintro e _ ⟨rfl, rfl⟩
        rw [HX.out]
        go_wp2
        go_ret
        refine ⟨ret_bool ?_, by go_grown⟩
        have : goodHt N l ≠ true := fun e => by
          simp only [goodHt, Bool.and_eq_true, Bool.not_eq_true', any_in] at e
          have h2 := e.2 _ (getD_mem' (k := k) (by have := HL.out; omega))
          rw [inR_iff.2 h2] at HX
          exact absurd HX.out (by simp)
        simpa using this.symm
      · have HX := hid hx
        have hx2 := inR_iff.1 hx
        clear hx
        go_wp2_with fail
        refine (s_l9Head _ _).mono ?_
        rintro e _ ⟨rfl, rfl⟩
        rw [HX.out]
        go_wp2
        go_roundg (m - (k + 1))
        case rel =>
          refine ⟨k + 1, by omega, rfl, by go_num, rfl, hid ?_⟩
          intro x hx
          rw [take_succ' l k (by have := HL.out; omega), List.mem_append, List.mem_singleton] at hx
          rcases hx with hx | rfl
          · exact hh.out x hx
          · exact hx2
        case measure => omega
    · obtain rfl : m = k := by omega
      have hall : l.take m = l := List.take_of_length_le (by have := HL.out; omega)
      have ha : ∀ x ∈ l, 0 ≤ x ∧ x ≤ 100000000000 := hall ▸ hh.out
      have hl := HL.out
      by_cases h1 : (m : Int) = N
      · have E := hid (show true = goodHt N l by first | exact (goodHt_iff.2 ⟨by omega, ha⟩).symm | exact (goodHt_iff.2 ⟨by omega, ha⟩).symm)
        clear hall ha hl
        go_wp2
        go_ret
        exact ⟨ret_bool (by first | exact E.out | (rw [← E.out]; simp; omega)), by go_grown⟩
      · have E := hid (show false = goodHt N l by first | exact (Bool.eq_false_iff.2 fun e => h1 (by have := (goodHt_iff.1 e).1; omega)).symm | exact (Bool.eq_false_iff.2 fun e => h1 (by have := (goodHt_iff.1 e).1; omega)).symm)
        clear hall ha hl
        go_wp2
        go_ret
        exact ⟨ret_bool (by first | exact E.out | (rw [← E.out]; simp; omega)), by go_grown⟩

/-- The heights taken off, from the first place on. -/
def prs (L hs : List Int) : Nat → List Int
  | 0 => L
  | k + 1 => (prs L hs k).set k (L[k]?.getD 0 - hs[k]?.getD 0)
theorem prs_len (L hs : List Int) : ∀ k, (prs L hs k).length = L.length
  | 0 => rfl
  | k + 1 => by unfold prs; rw [List.length_set, prs_len L hs k]
theorem prs_get (L hs : List Int) : ∀ (k j : Nat), k ≤ j → (prs L hs k)[j]?.getD 0 = L[j]?.getD 0
  | 0, j, _ => rfl
  | k + 1, j, h => by
    unfold prs
    rw [List.getElem?_set_ne (by omega)]
    exact prs_get L hs k j (by omega)
theorem headAt_fit {M : Nat} {l : List Pip} {fs : List Int} {s v hd : Int} (hg : goodNet M l = true) (hf : goodFl l.length fs = true) (hs : 1 ≤ s ∧ s ≤ M) (hv : 1 ≤ v ∧ v ≤ M) (hh : 0 ≤ hd ∧ hd ≤ 100000000000) : -4608000000 ≤ headAt l fs s hd v ∧ headAt l fs s hd v ≤ 104608000000 := by
  have hM := (goodNet_get hg).1
  unfold headAt
  by_cases h0 : 0 ≤ far l 0 v s
  · have := lsum_fit (t := v) (v0 := s) hg hf hs.1 hs.2 (far l 0 v s).toNat (by omega)
    have hlt := far_lt (wo := 0) (v := s) hg hv hs.1 hs.2
    omega
  · have e : (far l 0 v s).toNat = 0 := by omega
    rw [e]
    simp [lsum]
    omega
theorem headL_fit {M : Nat} {l : List Pip} {fs : List Int} {s hd : Int} (hg : goodNet M l = true) (hf : goodFl l.length fs = true) (hs : 1 ≤ s ∧ s ≤ M) (hh : 0 ≤ hd ∧ hd ≤ 100000000000) : ∀ k, k < M → -4608000000 ≤ (headL l fs s hd M)[k]?.getD 0 ∧ (headL l fs s hd M)[k]?.getD 0 ≤ 104608000000 := fun k hk => by
  have e : (headL l fs s hd M)[k]?.getD 0 = headAt l fs s hd ((k : Int) + 1) := by simp [headL, hk]
  rw [e]
  exact headAt_fit hg hf hs (by omega) hh

set_option maxRecDepth 100000 in
set_option maxHeartbeats 4000000 in
theorem i_pressuresOf (M s : Nat) (hd0 : Int) (a p q : Option Addr) (n c d e0 : Nat) (l : List Pip) (ds hs0 : List Int) (w : World) (h : QAt w a n l) (h' : IntsAt w p M ds) (h'' : IntsAt w q M hs0) (hg : goodNet M l = true) (hs : 1 ≤ s ∧ s ≤ M) (hd : ∀ x ∈ ds, 0 ≤ x ∧ x ≤ 1000) (ht : treeB M l = true) (hh0 : 0 ≤ hd0 ∧ hd0 ≤ 100000000000) (hh1 : ∀ x ∈ hs0, 0 ≤ x ∧ x ≤ 100000000000) :
    Calls Try.prog 112 #[.agg #[.int .i64 M, .slice a n c], .int .i64 s, .slice p M d, .int .i64 hd0, .slice q M e0] w fun e w' => ∃ a' c', e = .returned (.slice a' M c') ∧ OwnI w' w.heap.size (.slice a' M c') (prs (headL l (tflows M l s ds n) s hd0 M) hs0 M) ∧ Below w.heap.size w w' := by
  have hM : M ≤ 8 := by have := (goodNet_get hg).1; omega
  have hn : n ≤ 10 := by have := (goodNet_get hg).2.1; have := h.1; omega
  have H := hid h
  have H' := hid h'
  have H'' := hid h''
  have HHL := hid h''.1
  have HG := hid hg
  have HD := hid hd
  have HT := hid ht
  have HH := hid hh1
  obtain ⟨L, hL⟩ : ∃ L, headL l (tflows M l s ds n) s hd0 M = L := ⟨_, rfl⟩
  have HL := hid hL
  have HF := hid (show ∀ k, k < M → -4608000000 ≤ L[k]?.getD 0 ∧ L[k]?.getD 0 ≤ 104608000000 from by
    rw [← hL]
    exact headL_fit hg (by rw [h.1]; exact tflows_good hM h'.1 hd) (show 1 ≤ (s : Int) ∧ (s : Int) ≤ M by omega) hh0)
  rw [hL]
  clear h h' h'' hg hd ht hh1 hL
  go_enter Try.func112, Try.ntmps112
  go_wp2_with fail
  refine (i_headsOf M s hd0 _ _ n _ _ l ds _ (H.out.below (by go_grown)) (H'.out.below (by go_grown)) HG.out hs HD.out HT.out hh0).mono ?_
  rintro e w1 ⟨a1, c1, rfl, ho1, hb1⟩
  rw [HL.out] at ho1
  obtain ⟨g1, rfl, hg1, hg2⟩ := own_some ho1 (by omega)
  simp only [World.size_alloc] at hg1 ho1
  have HO1 := hid ho1
  have HB1 := hid (bstep (by go_grown) hb1 : Below w.heap.size w w1)
  clear ho1 hb1
  go_wp2
  go_loopg [21] M (fun g i wr => ∃ k : Nat, k ≤ M ∧ g = M - k ∧ i = .int .i64 k ∧ Hid (OwnI wr w.heap.size (.slice (some ⟨g1, 0, none⟩) M c1) (prs L hs0 k) ∧ Below w.heap.size w wr))
  case atStart => exact ⟨0, Nat.zero_le _, rfl, rfl, hid ⟨HO1.out.mono (by omega), HB1.out⟩⟩
  case round =>
    obtain ⟨k, hk, rfl, rfl, hW⟩ := hrel
    by_cases hlt : k < M
    · obtain ⟨b1, off1, e1, hb1w, hc1⟩ := (H''.out.below hW.out.2).2 k hlt
      subst e1
      have ho := hW.out.1.cell (k := k) hlt
      have hz := hW.out.1.frozen (k := k)
      rw [prs_get L hs0 k k (Nat.le_refl _)] at ho
      have hb0 := HF.out k hlt
      have hb2 := HH.out _ (getD_mem hs0 k (by have := HHL.out; omega))
      have hw9 := IntWalk.i64_in (L[k]?.getD 0 - hs0[k]?.getD 0) (by omega)
      have SS := hid (hW.out.1.set (k := k) (L[k]?.getD 0 - hs0[k]?.getD 0))
      go_wp2
      go_roundg (M - (k + 1))
      case rel => exact ⟨k + 1, by omega, rfl, by go_num, hid ⟨SS.out.1, hW.out.2.setCell (by show w.heap.size ≤ g1; omega) _⟩⟩
      case measure => omega
    · obtain rfl : k = M := by omega
      go_wp2
      go_ret
      exact ⟨_, _, rfl, hW.out.1, hW.out.2⟩

set_option maxRecDepth 100000 in
set_option maxHeartbeats 4000000 in
theorem s_l9Pressures (M s : Nat) (hd0 : Int) (a p q : Option Addr) (n c d e0 : Nat) (l : List Pip) (ds hs0 : List Int) (w : World) (h : QAt w a n l) (h' : IntsAt w p M ds) (h'' : IntsAt w q M hs0) (hg : goodNet M l = true) (hs : 1 ≤ s ∧ s ≤ M) (hd : ∀ x ∈ ds, 0 ≤ x ∧ x ≤ 1000) (ht : treeB M l = true) (hc : n ≤ c) (hh0 : 0 ≤ hd0 ∧ hd0 ≤ 100000000000) (hh1 : ∀ x ∈ hs0, 0 ≤ x ∧ x ≤ 100000000000) :
    Calls Try.prog 115 #[.agg #[.int .i64 M, .slice a n c], .int .i64 s, .slice p M d, .int .i64 hd0, .slice q M e0] w fun e w' => ∃ a' c', e = .returned (.slice a' M c') ∧ OwnI w' w.heap.size (.slice a' M c') (prs (headL l (tflows M l s ds n) s hd0 M) hs0 M) ∧ Below w.heap.size w w' := by
  have hM : M ≤ 8 := by have := (goodNet_get hg).1; omega
  have hn : n ≤ 10 := by have := (goodNet_get hg).2.1; have := h.1; omega
  have H := hid h
  have H' := hid h'
  have H'' := hid h''
  have HHL := hid h''.1
  have HG := hid hg
  have HD := hid hd
  have HT := hid ht
  have HH := hid hh1
  obtain ⟨L, hL⟩ : ∃ L, headL l (tflows M l s ds n) s hd0 M = L := ⟨_, rfl⟩
  have HL := hid hL
  have HF := hid (show ∀ k, k < M → -4608000000 ≤ L[k]?.getD 0 ∧ L[k]?.getD 0 ≤ 104608000000 from by
    rw [← hL]
    exact headL_fit hg (by rw [h.1]; exact tflows_good hM h'.1 hd) (show 1 ≤ (s : Int) ∧ (s : Int) ≤ M by omega) hh0)
  rw [hL]
  clear h h' h'' hg hd ht hh1 hL
  go_enter Try.func115, Try.ntmps115
  go_wp2_with fail
  refine (s_l9Heads M s hd0 _ _ n _ _ l ds _ (H.out.below (by go_grown)) (H'.out.below (by go_grown)) HG.out hs HD.out HT.out hc hh0).mono ?_
  rintro e w1 ⟨a1, c1, rfl, ho1, hb1⟩
  rw [HL.out] at ho1
  obtain ⟨g1, rfl, hg1, hg2⟩ := own_some ho1 (by omega)
  simp only [World.size_alloc] at hg1 ho1
  have HO1 := hid ho1
  have HB1 := hid (bstep (by go_grown) hb1 : Below w.heap.size w w1)
  clear ho1 hb1
  go_wp2
  go_loopg [12] M (fun g i wr => ∃ k : Nat, k ≤ M ∧ g = M - k ∧ i = .int .i64 k ∧ Hid (OwnI wr w.heap.size (.slice (some ⟨g1, 0, none⟩) M c1) (prs L hs0 k) ∧ Below w.heap.size w wr))
  case atStart => exact ⟨0, Nat.zero_le _, rfl, rfl, hid ⟨HO1.out.mono (by omega), HB1.out⟩⟩
  case round =>
    obtain ⟨k, hk, rfl, rfl, hW⟩ := hrel
    by_cases hlt : k < M
    · obtain ⟨b1, off1, e1, hb1w, hc1⟩ := (H''.out.below hW.out.2).2 k hlt
      subst e1
      have ho := hW.out.1.cell (k := k) hlt
      have hz := hW.out.1.frozen (k := k)
      rw [prs_get L hs0 k k (Nat.le_refl _)] at ho
      have hb0 := HF.out k hlt
      have hb2 := HH.out _ (getD_mem hs0 k (by have := HHL.out; omega))
      have hw9 := IntWalk.i64_in (L[k]?.getD 0 - hs0[k]?.getD 0) (by omega)
      go_upto_region 5 with fail
      go_region_law fail
      all_goals
        have SS := hid (hW.out.1.set (k := k) (L[k]?.getD 0 - hs0[k]?.getD 0))
        go_wp2
        go_roundg (M - (k + 1))
        case rel => exact ⟨k + 1, by omega, rfl, by go_num, hid ⟨SS.out.1, hW.out.2.drew.setCell (by show w.heap.size ≤ g1; omega) _⟩⟩
        case measure => omega
    · obtain rfl : k = M := by omega
      go_wp2
      go_ret
      exact ⟨_, _, rfl, hW.out.1, hW.out.2⟩

end Go.Proofs.Ytlnhikhpkcgegaa

/-
  PressuresOf, in the program and in the reference.
-/
set_option linter.unusedVariables false
set_option linter.unusedSimpArgs false
namespace Go.Proofs.Ytlnhikhpkcgegaa
open Go.RowKit

/-- What PressuresOf returns. -/
noncomputable def pressR (N : Int) (l : List Pip) (s : Int) (ds : List Int) (hd : Int) (hs : List Int) : List Int × Bool := if (canT N l s ds && inR hd 0 100000000000) = true ∧ goodHt N hs = true then (prs (headL l (tflows N.toNat l s ds l.length) s hd N.toNat) hs N.toNat, true) else ([], false)
theorem pressR_len {N : Int} {l : List Pip} {s : Int} {ds hs : List Int} {hd : Int} {R : List Int} {b : Bool} (h : pressR N l s ds hd hs = (R, b)) : R.length ≤ 1000 := by
  unfold pressR at h
  split at h
  · rename_i h1
    cases h
    rw [prs_len, headL_len]
    have := (goodNet_get (canT_iff ((Bool.and_eq_true _ _).mp h1.1).1).1).1
    omega
  · cases h
    simp

set_option maxRecDepth 100000 in
set_option maxHeartbeats 2000000 in
theorem i_PressuresOf (N s hd : Int) (a p q : Option Addr) (n c m d r e0 : Nat) (l : List Pip) (ds hs0 : List Int) (w : World) (h : QAt w a n l) (h' : IntsAt w p m ds) (h'' : IntsAt w q r hs0) (hn : n ≤ 1048576) (hm : m ≤ 1048576) (hr : r ≤ 1048576) (R : List Int) (b : Bool) (hR : pressR N l s ds hd hs0 = (R, b)) :
    Calls Try.prog 50 #[.agg #[.int .i64 N, .slice a n c], .int .i64 s, .slice p m d, .int .i64 hd, .slice q r e0] w fun e w' => ∃ a' c', e = .returned (.tuple #[.slice a' R.length c', .bool b]) ∧ OwnI w' w.heap.size (.slice a' R.length c') R ∧ Below w.heap.size w w' := by
  have hl := h.1
  have hl' := h'.1
  have hl'' := h''.1
  have H := hid h
  have H' := hid h'
  have H'' := hid h''
  clear h h' h''
  cases h1 : canT N l s ds
  · have e0 : pressR N l s ds hd hs0 = ([], false) := by simp [pressR, h1]
    rw [e0] at hR
    cases hR
    have H1 := hid h1
    clear h1 hl hl' hl''
    go_enter Try.func50, Try.ntmps50
    go_wp2_with fail
    refine (i_canTree _ _ _ _ _ _ _ _ l ds _ (H.out.below (by go_grown)) (H'.out.below (by go_grown)) hn hm).mono ?_
    rintro e w1 ⟨rfl, hb1⟩
    rw [H1.out]
    obtain ⟨hc_w1, hf_w1⟩ := bcell hb1
    have hz_w1_0 : w.heap.size < w1.heap.size := by have := hb1.size; simp only [World.size_alloc] at this; omega
    have HB1 := hid (bstep (by go_grown) hb1 : Below w.heap.size w w1)
    go_wp2
    go_ret2
    exact ⟨_, _, rfl, OwnI.nil _ _, HB1.out⟩
  · have H1 := hid h1
    cases h2 : inR hd 0 100000000000
    · have e0 : pressR N l s ds hd hs0 = ([], false) := by simp [pressR, h2]
      rw [e0] at hR
      cases hR
      have H2 := hid h2
      clear h1 h2 hl hl' hl''
      go_enter Try.func50, Try.ntmps50
      go_wp2_with fail
      refine (i_canTree _ _ _ _ _ _ _ _ l ds _ (H.out.below (by go_grown)) (H'.out.below (by go_grown)) hn hm).mono ?_
      rintro e w1 ⟨rfl, hb1⟩
      rw [H1.out]
      obtain ⟨hc_w1, hf_w1⟩ := bcell hb1
      have hz_w1_0 : w.heap.size < w1.heap.size := by have := hb1.size; simp only [World.size_alloc] at this; omega
      have HB1 := hid (bstep (by go_grown) hb1 : Below w.heap.size w w1)
      go_wp2_with fail
      refine (i_isHead _ _).mono ?_
      rintro e _ ⟨rfl, rfl⟩
      rw [H2.out]
      go_wp2
      go_ret2
      exact ⟨_, _, rfl, OwnI.nil _ _, HB1.out⟩
    · have H2 := hid h2
      cases h3 : goodHt N hs0
      · have e0 : pressR N l s ds hd hs0 = ([], false) := by simp [pressR, h3]
        rw [e0] at hR
        cases hR
        have H3 := hid h3
        clear h1 h2 h3 hl hl' hl''
        go_enter Try.func50, Try.ntmps50
        go_wp2_with fail
        refine (i_canTree _ _ _ _ _ _ _ _ l ds _ (H.out.below (by go_grown)) (H'.out.below (by go_grown)) hn hm).mono ?_
        rintro e w1 ⟨rfl, hb1⟩
        rw [H1.out]
        obtain ⟨hc_w1, hf_w1⟩ := bcell hb1
        have hz_w1_0 : w.heap.size < w1.heap.size := by have := hb1.size; simp only [World.size_alloc] at this; omega
        have HB1 := hid (bstep (by go_grown) hb1 : Below w.heap.size w w1)
        go_wp2_with fail
        refine (i_isHead _ _).mono ?_
        rintro e _ ⟨rfl, rfl⟩
        rw [H2.out]
        go_wp2_with fail
        refine (i_areHeights _ _ _ _ _ _ _ hs0 _ (H''.out.below HB1.out) hr).mono ?_
        rintro e w2 ⟨rfl, hb2⟩
        rw [H3.out]
        obtain ⟨hc_w2, hf_w2⟩ := bcell hb2
        have hz_w2_0 : w.heap.size < w2.heap.size := by have := hb2.size; omega
        have HB2 := hid (bstep HB1.out hb2 : Below w.heap.size w w2)
        go_wp2
        go_ret2
        exact ⟨_, _, rfl, OwnI.nil _ _, HB2.out⟩
      · have H3 := hid h3
        obtain ⟨g1, g2, g3, g4⟩ := canT_iff h1
        have g5 := goodHt_iff.1 h3
        have hN := (goodNet_get g1).1
        obtain ⟨M, rfl⟩ : ∃ M : Nat, N = M := ⟨N.toNat, by omega⟩
        have hmM : m = M := by omega
        subst hmM
        have hrM : r = m := by omega
        subst hrM
        obtain ⟨s0, rfl⟩ : ∃ s0 : Nat, s = s0 := ⟨s.toNat, by omega⟩
        have e0 : pressR r l s0 ds hd hs0 = (prs (headL l (tflows r l s0 ds n) s0 hd r) hs0 r, true) := by
          unfold pressR
          rw [if_pos ⟨by simp [h1, h2], h3⟩, hl]
          simp
        rw [e0] at hR
        cases hR
        rw [prs_len, headL_len]
        have HG := hid g1
        have HS := hid (show 1 ≤ s0 ∧ s0 ≤ r by omega)
        have HD := hid g3.2
        have HT := hid g4
        have HH := hid (inR_iff.1 h2)
        have HHT := hid g5.2
        clear h1 h2 h3 hl hl' hl'' e0 g1 g2 g3 g4 g5
        go_enter Try.func50, Try.ntmps50
        go_wp2_with fail
        refine (i_canTree _ _ _ _ _ _ _ _ l ds _ (H.out.below (by go_grown)) (H'.out.below (by go_grown)) hn hm).mono ?_
        rintro e w1 ⟨rfl, hb1⟩
        rw [H1.out]
        obtain ⟨hc_w1, hf_w1⟩ := bcell hb1
        have hz_w1_0 : w.heap.size < w1.heap.size := by have := hb1.size; simp only [World.size_alloc] at this; omega
        have HB1 := hid (bstep (by go_grown) hb1 : Below w.heap.size w w1)
        go_wp2_with fail
        refine (i_isHead _ _).mono ?_
        rintro e _ ⟨rfl, rfl⟩
        rw [H2.out]
        go_wp2_with fail
        refine (i_areHeights _ _ _ _ _ _ _ hs0 _ (H''.out.below HB1.out) hr).mono ?_
        rintro e w2 ⟨rfl, hb2⟩
        rw [H3.out]
        obtain ⟨hc_w2, hf_w2⟩ := bcell hb2
        have hz_w2_0 : w.heap.size < w2.heap.size := by have := hb2.size; omega
        have HB2 := hid (bstep HB1.out hb2 : Below w.heap.size w w2)
        go_wp2_with fail
        refine (i_pressuresOf r s0 hd _ _ _ n _ _ _ l ds hs0 _ (H.out.below HB2.out) (H'.out.below HB2.out) (H''.out.below HB2.out) HG.out HS.out HD.out HT.out HH.out HHT.out).mono ?_
        rintro e w3 ⟨a3, c3, rfl, ho3, hb3⟩
        have HO := hid ho3
        have HB3 := hid (bstep HB2.out hb3)
        clear ho3 hb3
        go_wp2
        go_ret2
        exact ⟨_, _, rfl, HO.out.mono HB2.out.size, HB3.out⟩

set_option maxRecDepth 100000 in
set_option maxHeartbeats 2000000 in
theorem s_PressuresOf (N s hd : Int) (a p q : Option Addr) (n c m d r e0 : Nat) (l : List Pip) (ds hs0 : List Int) (w : World) (h : QAt w a n l) (h' : IntsAt w p m ds) (h'' : IntsAt w q r hs0) (hn : n ≤ 1048576) (hm : m ≤ 1048576) (hr : r ≤ 1048576) (hc : n ≤ c) (R : List Int) (b : Bool) (hR : pressR N l s ds hd hs0 = (R, b)) :
    Calls Try.prog 51 #[.agg #[.int .i64 N, .slice a n c], .int .i64 s, .slice p m d, .int .i64 hd, .slice q r e0] w fun e w' => ∃ a' c', e = .returned (.tuple #[.slice a' R.length c', .bool b]) ∧ OwnI w' w.heap.size (.slice a' R.length c') R ∧ Below w.heap.size w w' := by
  have hl := h.1
  have hl' := h'.1
  have hl'' := h''.1
  have H := hid h
  have H' := hid h'
  have H'' := hid h''
  clear h h' h''
  cases h0 : canT N l s ds && inR hd 0 100000000000
  · have e0 : pressR N l s ds hd hs0 = ([], false) := by simp [pressR, h0]
    rw [e0] at hR
    cases hR
    have H0 := hid h0
    clear h0 hl hl' hl''
    go_enter Try.func51, Try.ntmps51
    go_wp2_with fail
    refine (s_l9Asked _ _ _ _ _ _ _ _ _ l ds _ (H.out.below (by go_grown)) (H'.out.below (by go_grown)) hn hm).mono ?_
    rintro e w1 ⟨rfl, hb1⟩
    rw [H0.out]
    obtain ⟨hc_w1, hf_w1⟩ := bcell hb1
    have hz_w1_0 : w.heap.size < w1.heap.size := by have := hb1.size; simp only [World.size_alloc] at this; omega
    have HB1 := hid (bstep (by go_grown) hb1 : Below w.heap.size w w1)
    go_wp2
    go_ret2
    exact ⟨_, _, rfl, (OwnI.lit0 _).mono HB1.out.size, bstep HB1.out (by go_grown)⟩
  · have H0 := hid h0
    obtain ⟨h1, h2⟩ := (Bool.and_eq_true _ _).mp h0
    cases h3 : goodHt N hs0
    · have e0 : pressR N l s ds hd hs0 = ([], false) := by simp [pressR, h3]
      rw [e0] at hR
      cases hR
      have H3 := hid h3
      clear h0 h1 h2 h3 hl hl' hl''
      go_enter Try.func51, Try.ntmps51
      go_wp2_with fail
      refine (s_l9Asked _ _ _ _ _ _ _ _ _ l ds _ (H.out.below (by go_grown)) (H'.out.below (by go_grown)) hn hm).mono ?_
      rintro e w1 ⟨rfl, hb1⟩
      rw [H0.out]
      obtain ⟨hc_w1, hf_w1⟩ := bcell hb1
      have hz_w1_0 : w.heap.size < w1.heap.size := by have := hb1.size; simp only [World.size_alloc] at this; omega
      have HB1 := hid (bstep (by go_grown) hb1 : Below w.heap.size w w1)
      go_wp2_with fail
      refine (s_l9Heights _ _ _ _ _ _ _ hs0 _ (H''.out.below HB1.out) hr).mono ?_
      rintro e w2 ⟨rfl, hb2⟩
      rw [H3.out]
      obtain ⟨hc_w2, hf_w2⟩ := bcell hb2
      have hz_w2_0 : w.heap.size < w2.heap.size := by have := hb2.size; omega
      have HB2 := hid (bstep HB1.out hb2 : Below w.heap.size w w2)
      go_wp2
      go_ret2
      exact ⟨_, _, rfl, (OwnI.lit0 _).mono HB2.out.size, bstep HB2.out (by go_grown)⟩
    · have H3 := hid h3
      obtain ⟨g1, g2, g3, g4⟩ := canT_iff h1
      have g5 := goodHt_iff.1 h3
      have hN := (goodNet_get g1).1
      obtain ⟨M, rfl⟩ : ∃ M : Nat, N = M := ⟨N.toNat, by omega⟩
      have hmM : m = M := by omega
      subst hmM
      have hrM : r = m := by omega
      subst hrM
      obtain ⟨s0, rfl⟩ : ∃ s0 : Nat, s = s0 := ⟨s.toNat, by omega⟩
      have e0 : pressR r l s0 ds hd hs0 = (prs (headL l (tflows r l s0 ds n) s0 hd r) hs0 r, true) := by
        unfold pressR
        rw [if_pos ⟨by simp [h1, h2], h3⟩, hl]
        simp
      rw [e0] at hR
      cases hR
      rw [prs_len, headL_len]
      have HG := hid g1
      have HS := hid (show 1 ≤ s0 ∧ s0 ≤ r by omega)
      have HD := hid g3.2
      have HT := hid g4
      have HH := hid (inR_iff.1 h2)
      have HHT := hid g5.2
      clear h1 h2 h3 hl hl' hl'' e0 g1 g2 g3 g4 g5
      go_enter Try.func51, Try.ntmps51
      go_wp2_with fail
      refine (s_l9Asked _ _ _ _ _ _ _ _ _ l ds _ (H.out.below (by go_grown)) (H'.out.below (by go_grown)) hn hm).mono ?_
      rintro e w1 ⟨rfl, hb1⟩
      rw [H0.out]
      obtain ⟨hc_w1, hf_w1⟩ := bcell hb1
      have hz_w1_0 : w.heap.size < w1.heap.size := by have := hb1.size; simp only [World.size_alloc] at this; omega
      have HB1 := hid (bstep (by go_grown) hb1 : Below w.heap.size w w1)
      go_wp2_with fail
      refine (s_l9Heights _ _ _ _ _ _ _ hs0 _ (H''.out.below HB1.out) hr).mono ?_
      rintro e w2 ⟨rfl, hb2⟩
      rw [H3.out]
      obtain ⟨hc_w2, hf_w2⟩ := bcell hb2
      have hz_w2_0 : w.heap.size < w2.heap.size := by have := hb2.size; omega
      have HB2 := hid (bstep HB1.out hb2 : Below w.heap.size w w2)
      go_wp2_with fail
      refine (s_l9Pressures r s0 hd _ _ _ n _ _ _ l ds hs0 _ (H.out.below HB2.out) (H'.out.below HB2.out) (H''.out.below HB2.out) HG.out HS.out HD.out HT.out hc HH.out HHT.out).mono ?_
      rintro e w3 ⟨a3, c3, rfl, ho3, hb3⟩
      have HO := hid ho3
      have HB3 := hid (bstep HB2.out hb3)
      clear ho3 hb3
      go_wp2
      go_ret2
      exact ⟨_, _, rfl, HO.out.mono HB2.out.size, HB3.out⟩

end Go.Proofs.Ytlnhikhpkcgegaa

/-
  WeakNodes, in the program and in the reference.
-/
set_option linter.unusedVariables false
set_option linter.unusedSimpArgs false
namespace Go.Proofs.Ytlnhikhpkcgegaa
open Go.RowKit

/-- The nodes among the first with less than a number. -/
def weakL (L : List Int) (d : Int) : Nat → List Int
  | 0 => []
  | k + 1 => if L[k]?.getD 0 < d then weakL L d k ++ [(k : Int) + 1] else weakL L d k
theorem weakL_yes {L : List Int} {d : Int} {k : Nat} (h : L[k]?.getD 0 < d) : weakL L d (k + 1) = weakL L d k ++ [(k : Int) + 1] := by rw [weakL, if_pos h]
theorem weakL_no {L : List Int} {d : Int} {k : Nat} (h : ¬ L[k]?.getD 0 < d) : weakL L d (k + 1) = weakL L d k := by rw [weakL, if_neg h]
theorem weakL_len (L : List Int) (d : Int) : ∀ k, (weakL L d k).length ≤ k
  | 0 => Nat.le_refl _
  | k + 1 => by
    have := weakL_len L d k
    unfold weakL
    split <;> simp <;> omega

/-- What WeakNodes returns. -/
noncomputable def weakR (N : Int) (l : List Pip) (s : Int) (ds : List Int) (hd : Int) (hs : List Int) (need : Int) : List Int × Bool := if ((canT N l s ds && inR hd 0 100000000000) = true ∧ goodHt N hs = true) ∧ inR need 0 100000000000 = true then (weakL (prs (headL l (tflows N.toNat l s ds l.length) s hd N.toNat) hs N.toNat) need N.toNat, true) else ([], false)
theorem weakR_len {N : Int} {l : List Pip} {s : Int} {ds hs : List Int} {hd need : Int} {R : List Int} {b : Bool} (h : weakR N l s ds hd hs need = (R, b)) : R.length ≤ 1000 := by
  unfold weakR at h
  split at h
  · rename_i h1
    cases h
    have := weakL_len (prs (headL l (tflows N.toNat l s ds l.length) s hd N.toNat) hs N.toNat) need N.toNat
    have := (goodNet_get (canT_iff ((Bool.and_eq_true _ _).mp h1.1.1).1).1).1
    omega
  · cases h
    simp

set_option maxRecDepth 100000 in
set_option maxHeartbeats 2000000 in
theorem i_WeakNodes (N s hd need : Int) (a p q : Option Addr) (n c m d r e0 : Nat) (l : List Pip) (ds hs0 : List Int) (w : World) (h : QAt w a n l) (h' : IntsAt w p m ds) (h'' : IntsAt w q r hs0) (hn : n ≤ 1048576) (hm : m ≤ 1048576) (hr : r ≤ 1048576) (R : List Int) (b : Bool) (hR : weakR N l s ds hd hs0 need = (R, b)) :
    Calls Try.prog 39 #[.agg #[.int .i64 N, .slice a n c], .int .i64 s, .slice p m d, .int .i64 hd, .slice q r e0, .int .i64 need] w fun e w' => ∃ a' c', e = .returned (.tuple #[.slice a' R.length c', .bool b]) ∧ OwnI w' w.heap.size (.slice a' R.length c') R ∧ Below w.heap.size w w' := by
  have hl := h.1
  have hl' := h'.1
  have hl'' := h''.1
  have H := hid h
  have H' := hid h'
  have H'' := hid h''
  clear h h' h''
  cases h1 : canT N l s ds
  · have e0 : weakR N l s ds hd hs0 need = ([], false) := by simp [weakR, h1]
    rw [e0] at hR
    cases hR
    have H1 := hid h1
    clear h1 hl hl' hl''
    go_enter Try.func39, Try.ntmps39
    go_wp2_with fail
    refine (i_canTree _ _ _ _ _ _ _ _ l ds _ (H.out.below (by go_grown)) (H'.out.below (by go_grown)) hn hm).mono ?_
    rintro e w1 ⟨rfl, hb1⟩
    rw [H1.out]
    obtain ⟨hc_w1, hf_w1⟩ := bcell hb1
    have hz_w1_0 : w.heap.size < w1.heap.size := by have := hb1.size; simp only [World.size_alloc] at this; omega
    have HB1 := hid (bstep (by go_grown) hb1 : Below w.heap.size w w1)
    go_wp2
    go_ret2
    exact ⟨_, _, rfl, OwnI.nil _ _, HB1.out⟩
  · have H1 := hid h1
    cases h2 : inR hd 0 100000000000
    · have e0 : weakR N l s ds hd hs0 need = ([], false) := by simp [weakR, h2]
      rw [e0] at hR
      cases hR
      have H2 := hid h2
      clear h1 h2 hl hl' hl''
      go_enter Try.func39, Try.ntmps39
      go_wp2_with fail
      refine (i_canTree _ _ _ _ _ _ _ _ l ds _ (H.out.below (by go_grown)) (H'.out.below (by go_grown)) hn hm).mono ?_
      rintro e w1 ⟨rfl, hb1⟩
      rw [H1.out]
      obtain ⟨hc_w1, hf_w1⟩ := bcell hb1
      have hz_w1_0 : w.heap.size < w1.heap.size := by have := hb1.size; simp only [World.size_alloc] at this; omega
      have HB1 := hid (bstep (by go_grown) hb1 : Below w.heap.size w w1)
      go_wp2_with fail
      refine (i_isHead _ _).mono ?_
      rintro e _ ⟨rfl, rfl⟩
      rw [H2.out]
      go_wp2
      go_ret2
      exact ⟨_, _, rfl, OwnI.nil _ _, HB1.out⟩
    · have H2 := hid h2
      cases h3 : goodHt N hs0
      · have e0 : weakR N l s ds hd hs0 need = ([], false) := by simp [weakR, h3]
        rw [e0] at hR
        cases hR
        have H3 := hid h3
        clear h1 h2 h3 hl hl' hl''
        go_enter Try.func39, Try.ntmps39
        go_wp2_with fail
        refine (i_canTree _ _ _ _ _ _ _ _ l ds _ (H.out.below (by go_grown)) (H'.out.below (by go_grown)) hn hm).mono ?_
        rintro e w1 ⟨rfl, hb1⟩
        rw [H1.out]
        obtain ⟨hc_w1, hf_w1⟩ := bcell hb1
        have hz_w1_0 : w.heap.size < w1.heap.size := by have := hb1.size; simp only [World.size_alloc] at this; omega
        have HB1 := hid (bstep (by go_grown) hb1 : Below w.heap.size w w1)
        go_wp2_with fail
        refine (i_isHead _ _).mono ?_
        rintro e _ ⟨rfl, rfl⟩
        rw [H2.out]
        go_wp2_with fail
        refine (i_areHeights _ _ _ _ _ _ _ hs0 _ (H''.out.below HB1.out) hr).mono ?_
        rintro e w2 ⟨rfl, hb2⟩
        rw [H3.out]
        obtain ⟨hc_w2, hf_w2⟩ := bcell hb2
        have hz_w2_0 : w.heap.size < w2.heap.size := by have := hb2.size; omega
        have HB2 := hid (bstep HB1.out hb2 : Below w.heap.size w w2)
        go_wp2
        go_ret2
        exact ⟨_, _, rfl, OwnI.nil _ _, HB2.out⟩
      · have H3 := hid h3
        cases h4 : inR need 0 100000000000
        · have e0 : weakR N l s ds hd hs0 need = ([], false) := by simp [weakR, h4]
          rw [e0] at hR
          cases hR
          have H4 := hid h4
          clear h1 h2 h3 h4 hl hl' hl''
          go_enter Try.func39, Try.ntmps39
          go_wp2_with fail
          refine (i_canTree _ _ _ _ _ _ _ _ l ds _ (H.out.below (by go_grown)) (H'.out.below (by go_grown)) hn hm).mono ?_
          rintro e w1 ⟨rfl, hb1⟩
          rw [H1.out]
          obtain ⟨hc_w1, hf_w1⟩ := bcell hb1
          have hz_w1_0 : w.heap.size < w1.heap.size := by have := hb1.size; simp only [World.size_alloc] at this; omega
          have HB1 := hid (bstep (by go_grown) hb1 : Below w.heap.size w w1)
          go_wp2_with fail
          refine (i_isHead _ _).mono ?_
          rintro e _ ⟨rfl, rfl⟩
          rw [H2.out]
          go_wp2_with fail
          refine (i_areHeights _ _ _ _ _ _ _ hs0 _ (H''.out.below HB1.out) hr).mono ?_
          rintro e w2 ⟨rfl, hb2⟩
          rw [H3.out]
          obtain ⟨hc_w2, hf_w2⟩ := bcell hb2
          have hz_w2_0 : w.heap.size < w2.heap.size := by have := hb2.size; omega
          have HB2 := hid (bstep HB1.out hb2 : Below w.heap.size w w2)
          go_wp2_with fail
          refine (i_isHead _ _).mono ?_
          rintro e _ ⟨rfl, rfl⟩
          rw [H4.out]
          go_wp2
          go_ret2
          exact ⟨_, _, rfl, OwnI.nil _ _, HB2.out⟩
        · have H4 := hid h4
          obtain ⟨g1, g2, g3, g4⟩ := canT_iff h1
          have g5 := goodHt_iff.1 h3
          have hN := (goodNet_get g1).1
          obtain ⟨M, rfl⟩ : ∃ M : Nat, N = M := ⟨N.toNat, by omega⟩
          have hmM : m = M := by omega
          subst hmM
          have hrM : r = m := by omega
          subst hrM
          obtain ⟨s0, rfl⟩ : ∃ s0 : Nat, s = s0 := ⟨s.toNat, by omega⟩
          have HG := hid g1
          have HS := hid (show 1 ≤ s0 ∧ s0 ≤ r by omega)
          have HD := hid g3.2
          have HT := hid g4
          have HHT := hid g5.2
          have HN8 := hid (show 1 ≤ r ∧ r ≤ 8 by omega)
          have e0 : weakR r l s0 ds hd hs0 need = (weakL (prs (headL l (tflows r l s0 ds n) s0 hd r) hs0 r) need r, true) := by
            unfold weakR
            rw [if_pos ⟨⟨by simp [h1, h2], h3⟩, h4⟩, hl]
            simp
          rw [e0] at hR
          cases hR
          obtain ⟨P, hP⟩ : ∃ P, prs (headL l (tflows r l s0 ds n) s0 hd r) hs0 r = P := ⟨_, rfl⟩
          rw [hP]
          have HPD := hid hP
          have HH := hid (inR_iff.1 h2)
          clear hP h1 h2 h3 h4 hl hl' hl'' e0 g1 g2 g3 g4 g5
          go_enter Try.func39, Try.ntmps39
          go_wp2_with fail
          refine (i_canTree _ _ _ _ _ _ _ _ l ds _ (H.out.below (by go_grown)) (H'.out.below (by go_grown)) hn hm).mono ?_
          rintro e w1 ⟨rfl, hb1⟩
          rw [H1.out]
          obtain ⟨hc_w1, hf_w1⟩ := bcell hb1
          have hz_w1_0 : w.heap.size < w1.heap.size := by have := hb1.size; simp only [World.size_alloc] at this; omega
          have HB1 := hid (bstep (by go_grown) hb1 : Below w.heap.size w w1)
          go_wp2_with fail
          refine (i_isHead _ _).mono ?_
          rintro e _ ⟨rfl, rfl⟩
          rw [H2.out]
          go_wp2_with fail
          refine (i_areHeights _ _ _ _ _ _ _ hs0 _ (H''.out.below HB1.out) hr).mono ?_
          rintro e w2 ⟨rfl, hb2⟩
          rw [H3.out]
          obtain ⟨hc_w2, hf_w2⟩ := bcell hb2
          have hz_w2_0 : w.heap.size < w2.heap.size := by have := hb2.size; omega
          have HB2 := hid (bstep HB1.out hb2 : Below w.heap.size w w2)
          go_wp2_with fail
          refine (i_isHead _ _).mono ?_
          rintro e _ ⟨rfl, rfl⟩
          rw [H4.out]
          go_wp2_with fail
          refine (i_pressuresOf r s0 hd _ _ _ n _ _ _ l ds hs0 _ (H.out.below (bstep HB2.out (by go_grown))) (H'.out.below (bstep HB2.out (by go_grown))) (H''.out.below (bstep HB2.out (by go_grown))) HG.out HS.out HD.out HT.out HH.out HHT.out).mono ?_
          rintro e w3 ⟨a3, c3, rfl, ho3, hb3⟩
          obtain ⟨g3, rfl, hg31, hg32⟩ := own_some ho3 (by have := HN8.out; omega)
          simp only [World.size_alloc] at hg31 ho3
          have HO2 := hid (show OwnI (w2.alloc (.cells #[] 3)) w.heap.size (.slice (some ⟨w2.heap.size, 0, none⟩) 0 0) [] from (OwnI.lit0 w2).mono HB2.out.size)
          have hz4 := HB2.out.size
          rw [HPD.out] at ho3
          have hgw3 := ho3.lt _ rfl
          have HP := hid ho3
          have HB3 := hid (bstep HB2.out (by first | exact hb3 | exact bstep (by go_grown) hb3) : Below w.heap.size w w3)
          have HO := hid ((HO2.out.below hb3))
          clear ho3 hb3
          go_wp2
          go_loopg [14, 46] r (fun g o i wr => ∃ (k : Nat) (a' : Option Addr) (c' : Nat), k ≤ r ∧ g = r - k ∧ i = .int .i64 k ∧ o = .slice a' (weakL P need k).length c' ∧ Hid (OwnI wr w.heap.size (.slice a' (weakL P need k).length c') (weakL P need k) ∧ OwnI wr w.heap.size (.slice (some ⟨g3, 0, none⟩) r c3) P ∧ Below w.heap.size w wr ∧ Value.ownBlock (.slice a' (weakL P need k).length c') ≠ some g3))
          case atStart =>
            refine ⟨0, _, 0, Nat.zero_le _, rfl, rfl, rfl, hid ⟨HO.out, HP.out.mono (by have := HB2.out.size; omega), HB3.out, ?_⟩⟩
            simp [Value.ownBlock]
            omega
          case round =>
            obtain ⟨k, a', c', hk, rfl, rfl, rfl, hh⟩ := hrel
            have hlen := weakL_len P need k
            by_cases hlt : k < r
            · have hcell := hh.out.2.1.cell (k := k) hlt
              have hgw : g3 < wr.heap.size := (hh.out.2.1.lt _ rfl).2
              by_cases hp : P[k]?.getD 0 < need
              · have E := hid (weakL_yes (k := k) hp)
                have hw9 := IntWalk.i64_in ((k : Int) + 1) (by have := HN8.out; omega)
                go_wp2_with (at_builtin; refine wp_append_ints _ rfl _ _ rfl w.heap.size _ (weakL P need k) rfl (hh.out.1.alloc _) _ 1 1 [(k : Int) + 1] rfl (IntsAt.single _ _) ((weakL P need k).length + 1) (by simp) (by have := HN8.out; omega) (by have := hh.out.2.2.1.size; simp; omega) ?_)
                intro a2 c2 w5 hown hgrow hblk
                have hl2 : (weakL P need k).length + 1 = (weakL P need (k + 1)).length := by rw [E.out]; simp
                rw [hl2] at hown hblk ⊢
                have S2 := hid (show OwnI w5 w.heap.size (.slice a2 (weakL P need (k + 1)).length c2) (weakL P need (k + 1)) ∧ OwnI w5 w.heap.size (.slice (some ⟨g3, 0, none⟩) r c3) P ∧ Below w.heap.size w w5 ∧ Value.ownBlock (.slice a2 (weakL P need (k + 1)).length c2) ≠ some g3 from by
                  refine ⟨by rw [E.out] at hown ⊢; exact hown, (hh.out.2.1.alloc _).kept hgrow (.inr (fun e => hh.out.2.2.2 (by rw [← e]; rfl))), (bstep hh.out.2.2.1 (by go_grown)).grown hgrow (by have := hh.out.2.2.1.size; simp; omega) (fun q hq => (hh.out.1.lt q hq).1), ?_⟩
                  rcases hblk with e | e
                  · rw [e]; exact hh.out.2.2.2
                  · rw [e]; simp; omega)
                clear hown hgrow hblk hl2
                go_wp2
                go_roundg (r - (k + 1))
                case rel => exact ⟨k + 1, _, _, by omega, rfl, by go_num, rfl, S2⟩
                case measure => omega
              · have E := hid (weakL_no (k := k) hp)
                go_wp2
                go_roundg (r - (k + 1))
                case rel => exact ⟨k + 1, a', c', by omega, rfl, by go_num, by rw [E.out], hid (by rw [E.out]; exact hh.out)⟩
                case measure => omega
            · obtain rfl : k = r := by omega
              go_wp2
              go_ret2
              exact ⟨_, _, rfl, hh.out.1, hh.out.2.2.1⟩

set_option maxRecDepth 100000 in
set_option maxHeartbeats 2000000 in
theorem s_WeakNodes (N s hd need : Int) (a p q : Option Addr) (n c m d r e0 : Nat) (l : List Pip) (ds hs0 : List Int) (w : World) (h : QAt w a n l) (h' : IntsAt w p m ds) (h'' : IntsAt w q r hs0) (hn : n ≤ 1048576) (hm : m ≤ 1048576) (hr : r ≤ 1048576) (hc : n ≤ c) (R : List Int) (b : Bool) (hR : weakR N l s ds hd hs0 need = (R, b)) :
    Calls Try.prog 41 #[.agg #[.int .i64 N, .slice a n c], .int .i64 s, .slice p m d, .int .i64 hd, .slice q r e0, .int .i64 need] w fun e w' => ∃ a' c', e = .returned (.tuple #[.slice a' R.length c', .bool b]) ∧ OwnI w' w.heap.size (.slice a' R.length c') R ∧ Below w.heap.size w w' := by
  have hl := h.1
  have hl' := h'.1
  have hl'' := h''.1
  have H := hid h
  have H' := hid h'
  have H'' := hid h''
  clear h h' h''
  cases h0 : canT N l s ds && inR hd 0 100000000000
  · have e0 : weakR N l s ds hd hs0 need = ([], false) := by simp [weakR, h0]
    rw [e0] at hR
    cases hR
    have H0 := hid h0
    clear h0 hl hl' hl''
    go_enter Try.func41, Try.ntmps41
    go_wp2_with fail
    refine (s_l9Asked _ _ _ _ _ _ _ _ _ l ds _ (H.out.below (by go_grown)) (H'.out.below (by go_grown)) hn hm).mono ?_
    rintro e w1 ⟨rfl, hb1⟩
    rw [H0.out]
    obtain ⟨hc_w1, hf_w1⟩ := bcell hb1
    have hz_w1_0 : w.heap.size < w1.heap.size := by have := hb1.size; simp only [World.size_alloc] at this; omega
    have HB1 := hid (bstep (by go_grown) hb1 : Below w.heap.size w w1)
    have HO1 := hid ((OwnI.lit0 (w.alloc (.cells #[.int .i64 N, .slice a n c] 26))).below hb1)
    simp only [World.size_alloc] at HO1
    go_wp2
    go_ret2
    exact ⟨_, _, rfl, HO1.out.mono (by omega), HB1.out⟩
  · have H0 := hid h0
    cases h3 : goodHt N hs0
    · have e0 : weakR N l s ds hd hs0 need = ([], false) := by simp [weakR, h3]
      rw [e0] at hR
      cases hR
      have H3 := hid h3
      clear h0 h3 hl hl' hl''
      go_enter Try.func41, Try.ntmps41
      go_wp2_with fail
      refine (s_l9Asked _ _ _ _ _ _ _ _ _ l ds _ (H.out.below (by go_grown)) (H'.out.below (by go_grown)) hn hm).mono ?_
      rintro e w1 ⟨rfl, hb1⟩
      rw [H0.out]
      obtain ⟨hc_w1, hf_w1⟩ := bcell hb1
      have hz_w1_0 : w.heap.size < w1.heap.size := by have := hb1.size; simp only [World.size_alloc] at this; omega
      have HB1 := hid (bstep (by go_grown) hb1 : Below w.heap.size w w1)
      have HO1 := hid ((OwnI.lit0 (w.alloc (.cells #[.int .i64 N, .slice a n c] 26))).below hb1)
      simp only [World.size_alloc] at HO1
      go_wp2_with fail
      refine (s_l9Heights _ _ _ _ _ _ _ hs0 _ (H''.out.below HB1.out) hr).mono ?_
      rintro e w2 ⟨rfl, hb2⟩
      rw [H3.out]
      obtain ⟨hc_w2, hf_w2⟩ := bcell hb2
      have hz_w2_0 : w.heap.size < w2.heap.size := by have := hb2.size; omega
      have HB2 := hid (bstep HB1.out hb2 : Below w.heap.size w w2)
      go_wp2
      go_ret2
      exact ⟨_, _, rfl, (HO1.out.below hb2).mono (by omega), HB2.out⟩
    · have H3 := hid h3
      cases h4 : inR need 0 100000000000
      · have e0 : weakR N l s ds hd hs0 need = ([], false) := by simp [weakR, h4]
        rw [e0] at hR
        cases hR
        have H4 := hid h4
        clear h0 h3 h4 hl hl' hl''
        go_enter Try.func41, Try.ntmps41
        go_wp2_with fail
        refine (s_l9Asked _ _ _ _ _ _ _ _ _ l ds _ (H.out.below (by go_grown)) (H'.out.below (by go_grown)) hn hm).mono ?_
        rintro e w1 ⟨rfl, hb1⟩
        rw [H0.out]
        obtain ⟨hc_w1, hf_w1⟩ := bcell hb1
        have hz_w1_0 : w.heap.size < w1.heap.size := by have := hb1.size; simp only [World.size_alloc] at this; omega
        have HB1 := hid (bstep (by go_grown) hb1 : Below w.heap.size w w1)
        have HO1 := hid ((OwnI.lit0 (w.alloc (.cells #[.int .i64 N, .slice a n c] 26))).below hb1)
        simp only [World.size_alloc] at HO1
        go_wp2_with fail
        refine (s_l9Heights _ _ _ _ _ _ _ hs0 _ (H''.out.below HB1.out) hr).mono ?_
        rintro e w2 ⟨rfl, hb2⟩
        rw [H3.out]
        obtain ⟨hc_w2, hf_w2⟩ := bcell hb2
        have hz_w2_0 : w.heap.size < w2.heap.size := by have := hb2.size; omega
        have HB2 := hid (bstep HB1.out hb2 : Below w.heap.size w w2)
        go_wp2_with fail
        refine (s_l9Head _ _).mono ?_
        rintro e _ ⟨rfl, rfl⟩
        rw [H4.out]
        go_wp2
        go_ret2
        exact ⟨_, _, rfl, (HO1.out.below hb2).mono (by omega), HB2.out⟩
      · have H4 := hid h4
        obtain ⟨h1, h2⟩ := (Bool.and_eq_true _ _).mp h0
        obtain ⟨g1, g2, g3, g4⟩ := canT_iff h1
        have g5 := goodHt_iff.1 h3
        have hN := (goodNet_get g1).1
        obtain ⟨M, rfl⟩ : ∃ M : Nat, N = M := ⟨N.toNat, by omega⟩
        have hmM : m = M := by omega
        subst hmM
        have hrM : r = m := by omega
        subst hrM
        obtain ⟨s0, rfl⟩ : ∃ s0 : Nat, s = s0 := ⟨s.toNat, by omega⟩
        have HG := hid g1
        have HS := hid (show 1 ≤ s0 ∧ s0 ≤ r by omega)
        have HD := hid g3.2
        have HT := hid g4
        have HHT := hid g5.2
        have HN8 := hid (show 1 ≤ r ∧ r ≤ 8 by omega)
        have e0 : weakR r l s0 ds hd hs0 need = (weakL (prs (headL l (tflows r l s0 ds n) s0 hd r) hs0 r) need r, true) := by
          unfold weakR
          rw [if_pos ⟨⟨by simp [h1, h2], h3⟩, h4⟩, hl]
          simp
        rw [e0] at hR
        cases hR
        obtain ⟨P, hP⟩ : ∃ P, prs (headL l (tflows r l s0 ds n) s0 hd r) hs0 r = P := ⟨_, rfl⟩
        rw [hP]
        have HPD := hid hP
        have HH := hid (inR_iff.1 h2)
        clear hP h0 h1 h2 h3 h4 hl hl' hl'' e0 g1 g2 g3 g4 g5
        go_enter Try.func41, Try.ntmps41
        go_wp2_with fail
        refine (s_l9Asked _ _ _ _ _ _ _ _ _ l ds _ (H.out.below (by go_grown)) (H'.out.below (by go_grown)) hn hm).mono ?_
        rintro e w1 ⟨rfl, hb1⟩
        rw [H0.out]
        obtain ⟨hc_w1, hf_w1⟩ := bcell hb1
        have hz_w1_0 : w.heap.size < w1.heap.size := by have := hb1.size; simp only [World.size_alloc] at this; omega
        have HB1 := hid (bstep (by go_grown) hb1 : Below w.heap.size w w1)
        have HO1 := hid ((OwnI.lit0 (w.alloc (.cells #[.int .i64 r, .slice a n c] 26))).below hb1)
        simp only [World.size_alloc] at HO1
        go_wp2_with fail
        refine (s_l9Heights _ _ _ _ _ _ _ hs0 _ (H''.out.below HB1.out) hr).mono ?_
        rintro e w2 ⟨rfl, hb2⟩
        rw [H3.out]
        obtain ⟨hc_w2, hf_w2⟩ := bcell hb2
        have hz_w2_0 : w.heap.size < w2.heap.size := by have := hb2.size; omega
        have HB2 := hid (bstep HB1.out hb2 : Below w.heap.size w w2)
        go_wp2_with fail
        refine (s_l9Head _ _).mono ?_
        rintro e _ ⟨rfl, rfl⟩
        rw [H4.out]
        go_wp2_with fail
        refine (s_l9Pressures r s0 hd _ _ _ n _ _ _ l ds hs0 _ (H.out.below HB2.out) (H'.out.below HB2.out) (H''.out.below HB2.out) HG.out HS.out HD.out HT.out hc HH.out HHT.out).mono ?_
        rintro e w3 ⟨a3, c3, rfl, ho3, hb3⟩
        obtain ⟨g3, rfl, hg31, hg32⟩ := own_some ho3 (by have := HN8.out; omega)
        have HO2 := hid ((HO1.out.below hb2).mono (B' := w.heap.size) (by omega))
        have hz4 := HB2.out.size
        have hz5 := hb1.size
        simp only [World.size_alloc] at hz5
        have hz6 := hb2.size
        rw [HPD.out] at ho3
        have hgw3 := ho3.lt _ rfl
        have HP := hid ho3
        have HB3 := hid (bstep HB2.out (by first | exact hb3 | exact bstep (by go_grown) hb3) : Below w.heap.size w w3)
        have HO := hid ((HO2.out.below hb3))
        clear ho3 hb3
        go_wp2
        go_loopg [14, 16] r (fun g o i wr => ∃ (k : Nat) (a' : Option Addr) (c' : Nat), k ≤ r ∧ g = r - k ∧ i = .int .i64 k ∧ o = .slice a' (weakL P need k).length c' ∧ Hid (OwnI wr w.heap.size (.slice a' (weakL P need k).length c') (weakL P need k) ∧ OwnI wr w.heap.size (.slice (some ⟨g3, 0, none⟩) r c3) P ∧ Below w.heap.size w wr ∧ Value.ownBlock (.slice a' (weakL P need k).length c') ≠ some g3))
        case atStart =>
          refine ⟨0, _, 0, Nat.zero_le _, rfl, rfl, rfl, hid ⟨HO.out, HP.out.mono (by have := HB2.out.size; omega), HB3.out, ?_⟩⟩
          simp [Value.ownBlock]
          omega
        case round =>
          obtain ⟨k, a', c', hk, rfl, rfl, rfl, hh⟩ := hrel
          have hlen := weakL_len P need k
          by_cases hlt : k < r
          · have hcell := hh.out.2.1.cell (k := k) hlt
            have hgw : g3 < wr.heap.size := (hh.out.2.1.lt _ rfl).2
            by_cases hp : P[k]?.getD 0 < need
            · have E := hid (weakL_yes (k := k) hp)
              have hw9 := IntWalk.i64_in ((k : Int) + 1) (by have := HN8.out; omega)
              go_wp2_with (at_builtin; refine wp_append_ints _ rfl _ _ rfl w.heap.size _ (weakL P need k) rfl (hh.out.1.alloc _) _ 1 1 [(k : Int) + 1] rfl (IntsAt.single _ _) ((weakL P need k).length + 1) (by simp) (by have := HN8.out; omega) (by have := hh.out.2.2.1.size; simp; omega) ?_)
              intro a2 c2 w5 hown hgrow hblk
              have hl2 : (weakL P need k).length + 1 = (weakL P need (k + 1)).length := by rw [E.out]; simp
              rw [hl2] at hown hblk ⊢
              have S2 := hid (show OwnI w5 w.heap.size (.slice a2 (weakL P need (k + 1)).length c2) (weakL P need (k + 1)) ∧ OwnI w5 w.heap.size (.slice (some ⟨g3, 0, none⟩) r c3) P ∧ Below w.heap.size w w5 ∧ Value.ownBlock (.slice a2 (weakL P need (k + 1)).length c2) ≠ some g3 from by
                refine ⟨by rw [E.out] at hown ⊢; exact hown, (hh.out.2.1.alloc _).kept hgrow (.inr (fun e => hh.out.2.2.2 (by rw [← e]; rfl))), (bstep hh.out.2.2.1 (by go_grown)).grown hgrow (by have := hh.out.2.2.1.size; simp; omega) (fun q hq => (hh.out.1.lt q hq).1), ?_⟩
                rcases hblk with e | e
                · rw [e]; exact hh.out.2.2.2
                · rw [e]; simp; omega)
              clear hown hgrow hblk hl2
              go_wp2
              go_roundg (r - (k + 1))
              case rel => exact ⟨k + 1, _, _, by omega, rfl, by go_num, rfl, S2⟩
              case measure => omega
            · have E := hid (weakL_no (k := k) hp)
              go_wp2
              go_roundg (r - (k + 1))
              case rel => exact ⟨k + 1, a', c', by omega, rfl, by go_num, by rw [E.out], hid (by rw [E.out]; exact hh.out)⟩
              case measure => omega
          · obtain rfl : k = r := by omega
            go_wp2
            go_ret2
            exact ⟨_, _, rfl, hh.out.1, hh.out.2.2.1⟩

end Go.Proofs.Ytlnhikhpkcgegaa

