/-
  What the small functions on slices of numbers do: sums, comparisons, copies, marks.
-/
import Derived.Test.YtpmffboojkfpdaaBase
set_option linter.unusedVariables false
namespace Go.Proofs.Ytpmffboojkfpdaa
open Go.RowKit

set_option maxHeartbeats 400000 in
theorem i_sumInts (a : Option Addr) (n c : Nat) (l : List Int) (w : World) (h : IntsAt w a n l) (hn : n ≤ 4194304) (hv : ∀ x ∈ l, -1000000000000 ≤ x ∧ x ≤ 1000000000000) :
    Calls Try.prog 90 #[.slice a n c] w fun e w' => e = .returned (.int .i64 l.sum) ∧ w = w' := by
  obtain ⟨hl, hc⟩ := h
  have HL := hid hl
  clear hl
  go_enter Try.func90, Try.ntmps90
  go_wp2
  go_loop [3, 8] (fun s i => ∃ k : Nat, k ≤ n ∧ i = .int .i64 k ∧ s = .int .i64 ((l.take k).sum)) (fun _ i => n - (intOf i).toNat)
  case atStart => exact ⟨0, Nat.zero_le _, rfl, rfl⟩
  case round =>
    obtain ⟨k, hk, rfl, rfl⟩ := hrel
    by_cases hlt : k < n
    · obtain ⟨b, off, rfl, hbw, hcell⟩ := hc k hlt
      clear hc
      have hb1 := sum_take_bound l hv k (by have := HL.out; omega)
      have hb2 := sum_take_bound l hv (k + 1) (by have := HL.out; omega)
      rw [sum_take_succ l k (by have := HL.out; omega)] at hb2
      have hs := hid (sum_take_succ l k (by have := HL.out; omega))
      go_wp2
      go_round
      case rel => exact ⟨k + 1, by omega, by go_num, by rw [hs.out]⟩
      case measure => simp [intOf]; omega
    · go_wp2
      go_ret
      exact ⟨ret_int (by rw [List.take_of_length_le (by have := HL.out; omega)]), rfl⟩
set_option maxHeartbeats 400000 in
theorem l_vSum (a : Option Addr) (n c : Nat) (l : List Int) (w : World) (h : IntsAt w a n l) (hn : n ≤ 4194304) (hv : ∀ x ∈ l, -1000000000000 ≤ x ∧ x ≤ 1000000000000) :
    Calls Try.prog 58 #[.slice a n c] w fun e w' => e = .returned (.int .i64 l.sum) ∧ w = w' := by
  obtain ⟨hl, hc⟩ := h
  have HL := hid hl
  clear hl
  go_enter Try.func58, Try.ntmps58
  go_wp2
  go_loop [3, 4] (fun s i => ∃ k : Nat, k ≤ n ∧ i = .int .i64 k ∧ s = .int .i64 ((l.take k).sum)) (fun _ i => n - (intOf i).toNat)
  case atStart => exact ⟨0, Nat.zero_le _, rfl, rfl⟩
  case round =>
    obtain ⟨k, hk, rfl, rfl⟩ := hrel
    by_cases hlt : k < n
    · obtain ⟨b, off, rfl, hbw, hcell⟩ := hc k hlt
      clear hc
      have hb1 := sum_take_bound l hv k (by have := HL.out; omega)
      have hb2 := sum_take_bound l hv (k + 1) (by have := HL.out; omega)
      rw [sum_take_succ l k (by have := HL.out; omega)] at hb2
      have hs := hid (sum_take_succ l k (by have := HL.out; omega))
      go_wp2
      go_round
      case rel => exact ⟨k + 1, by omega, by go_num, by rw [hs.out]⟩
      case measure => simp [intOf]; omega
    · go_wp2
      go_ret
      exact ⟨ret_int (by rw [List.take_of_length_le (by have := HL.out; omega)]), rfl⟩
set_option maxHeartbeats 400000 in
theorem l_rSum (a : Option Addr) (n c : Nat) (l : List Int) (w : World) (h : IntsAt w a n l) (hn : n ≤ 4194304) (hv : ∀ x ∈ l, -1000000000000 ≤ x ∧ x ≤ 1000000000000) :
    Calls Try.prog 45 #[.slice a n c] w fun e w' => e = .returned (.int .i64 l.sum) ∧ w = w' := by
  obtain ⟨hl, hc⟩ := h
  have HL := hid hl
  clear hl
  go_enter Try.func45, Try.ntmps45
  go_wp2
  go_loop [3, 4] (fun s i => ∃ k : Nat, k ≤ n ∧ i = .int .i64 k ∧ s = .int .i64 ((l.take k).sum)) (fun _ i => n - (intOf i).toNat)
  case atStart => exact ⟨0, Nat.zero_le _, rfl, rfl⟩
  case round =>
    obtain ⟨k, hk, rfl, rfl⟩ := hrel
    by_cases hlt : k < n
    · obtain ⟨b, off, rfl, hbw, hcell⟩ := hc k hlt
      clear hc
      have hb1 := sum_take_bound l hv k (by have := HL.out; omega)
      have hb2 := sum_take_bound l hv (k + 1) (by have := HL.out; omega)
      rw [sum_take_succ l k (by have := HL.out; omega)] at hb2
      have hs := hid (sum_take_succ l k (by have := HL.out; omega))
      go_wp2
      go_round
      case rel => exact ⟨k + 1, by omega, by go_num, by rw [hs.out]⟩
      case measure => simp [intOf]; omega
    · go_wp2
      go_ret
      exact ⟨ret_int (by rw [List.take_of_length_le (by have := HL.out; omega)]), rfl⟩
theorem l_eqIntS_eq (a b : Option Addr) (n c d : Nat) (l l' : List Int) (w : World) (h : IntsAt w a n l) (h' : IntsAt w b n l') (hn : n ≤ 4194304) :
    Calls Try.prog 50 #[.slice a n c, .slice b n d] w fun e w' => e = .returned (.bool (decide (l = l'))) ∧ Below w.heap.size w w' := by
  obtain ⟨hl, hc⟩ := h
  obtain ⟨hl', hc'⟩ := h'
  have HL := hid hl
  have HL' := hid hl'
  clear hl hl'
  go_enter Try.func50, Try.ntmps50
  go_wp2
  go_loopw [5] (fun i wr => ∃ k t : Nat, k ≤ n ∧ i = .int .i64 k ∧ wr = w.drewN t ∧ l.take k = l'.take k) (fun i _ => n - (intOf i).toNat)
  case atStart => exact ⟨0, 0, Nat.zero_le _, rfl, rfl, by simp⟩
  case round =>
    obtain ⟨k, t, hk, rfl, rfl, heq⟩ := hrel
    have HE := hid heq
    clear heq
    by_cases hlt : k < n
    · obtain ⟨b1, off, rfl, hbw, hcell⟩ := hc k hlt
      obtain ⟨b2, off2, rfl, hbw2, hcell2⟩ := hc' k hlt
      clear hc hc'
      have e1 := hid (take_succ' l k (by have := HL.out; omega))
      have e2 := hid (take_succ' l' k (by have := HL'.out; omega))
      by_cases hx : l[k]?.getD 0 = l'[k]?.getD 0
      · have hx' : (l[k]?.getD 0 != l'[k]?.getD 0) = false := by simp [hx]
        have HX := hid hx
        clear hx
        go_wp2
        go_quiet (fail)
        go_wp2
        go_roundw
        case rel => exact ⟨k + 1, _, by omega, by go_num, rfl, by rw [e1.out, e2.out, HE.out, HX.out]⟩
        case measure => simp [intOf]; omega
      · have hx' : (l[k]?.getD 0 != l'[k]?.getD 0) = true := by simp [hx]
        go_wp2
        go_quiet (fail)
        go_wp2
        go_ret
        exact ⟨ret_bool (by symm; simp only [decide_eq_false_iff_not]; intro e; subst e; exact hx rfl), drew_drewN _ _⟩
    · go_wp2
      go_ret
      refine ⟨ret_bool ?_, bdraws _⟩
      have e := HE.out
      rw [List.take_of_length_le (by have := HL.out; omega), List.take_of_length_le (by have := HL'.out; omega)] at e
      simp [e]

theorem l_eqIntS (a b : Option Addr) (n m c d : Nat) (l l' : List Int) (w : World) (h : IntsAt w a n l) (h' : IntsAt w b m l') (hn : n ≤ 4194304) (hm : m ≤ 4194304) :
    Calls Try.prog 50 #[.slice a n c, .slice b m d] w fun e w' => e = .returned (.bool (decide (l = l'))) ∧ Below w.heap.size w w' := by
  by_cases hnm : n = m
  · subst hnm
    exact l_eqIntS_eq a b n c d l l' w h h' hn
  · have hne : decide (l = l') = false := by
      simp only [decide_eq_false_iff_not]; intro e; subst e; exact hnm (h.1.symm.trans h'.1)
    clear h h'
    have HN := hid hne
    clear hne
    go_enter Try.func50, Try.ntmps50
    go_wp2
    go_ret
    exact ⟨ret_bool HN.out.symm, Below.refl _ _⟩
theorem l_vInts_eq (a b : Option Addr) (n c d : Nat) (l l' : List Int) (w : World) (h : IntsAt w a n l) (h' : IntsAt w b n l') (hn : n ≤ 4194304) :
    Calls Try.prog 57 #[.slice a n c, .slice b n d] w fun e w' => e = .returned (.bool (decide (l = l'))) ∧ Below w.heap.size w w' := by
  obtain ⟨hl, hc⟩ := h
  obtain ⟨hl', hc'⟩ := h'
  have HL := hid hl
  have HL' := hid hl'
  clear hl hl'
  go_enter Try.func57, Try.ntmps57
  go_wp2
  go_loopw [5] (fun i wr => ∃ k t : Nat, k ≤ n ∧ i = .int .i64 k ∧ wr = w.drewN t ∧ l.take k = l'.take k) (fun i _ => n - (intOf i).toNat)
  case atStart => exact ⟨0, 0, Nat.zero_le _, rfl, rfl, by simp⟩
  case round =>
    obtain ⟨k, t, hk, rfl, rfl, heq⟩ := hrel
    have HE := hid heq
    clear heq
    by_cases hlt : k < n
    · obtain ⟨b1, off, rfl, hbw, hcell⟩ := hc k hlt
      obtain ⟨b2, off2, rfl, hbw2, hcell2⟩ := hc' k hlt
      clear hc hc'
      have e1 := hid (take_succ' l k (by have := HL.out; omega))
      have e2 := hid (take_succ' l' k (by have := HL'.out; omega))
      by_cases hx : l[k]?.getD 0 = l'[k]?.getD 0
      · have hx' : (l[k]?.getD 0 != l'[k]?.getD 0) = false := by simp [hx]
        have HX := hid hx
        clear hx
        go_wp2
        go_quiet (fail)
        go_wp2
        go_roundw
        case rel => exact ⟨k + 1, _, by omega, by go_num, rfl, by rw [e1.out, e2.out, HE.out, HX.out]⟩
        case measure => simp [intOf]; omega
      · have hx' : (l[k]?.getD 0 != l'[k]?.getD 0) = true := by simp [hx]
        go_wp2
        go_quiet (fail)
        go_wp2
        go_ret
        exact ⟨ret_bool (by symm; simp only [decide_eq_false_iff_not]; intro e; subst e; exact hx rfl), drew_drewN _ _⟩
    · go_wp2
      go_ret
      refine ⟨ret_bool ?_, bdraws _⟩
      have e := HE.out
      rw [List.take_of_length_le (by have := HL.out; omega), List.take_of_length_le (by have := HL'.out; omega)] at e
      simp [e]

theorem l_vInts (a b : Option Addr) (n m c d : Nat) (l l' : List Int) (w : World) (h : IntsAt w a n l) (h' : IntsAt w b m l') (hn : n ≤ 4194304) (hm : m ≤ 4194304) :
    Calls Try.prog 57 #[.slice a n c, .slice b m d] w fun e w' => e = .returned (.bool (decide (l = l'))) ∧ Below w.heap.size w w' := by
  by_cases hnm : n = m
  · subst hnm
    exact l_vInts_eq a b n c d l l' w h h' hn
  · have hne : decide (l = l') = false := by
      simp only [decide_eq_false_iff_not]; intro e; subst e; exact hnm (h.1.symm.trans h'.1)
    clear h h'
    have HN := hid hne
    clear hne
    go_enter Try.func57, Try.ntmps57
    go_wp2
    go_ret
    exact ⟨ret_bool HN.out.symm, Below.refl _ _⟩
theorem l_rInts_eq (a b : Option Addr) (n c d : Nat) (l l' : List Int) (w : World) (h : IntsAt w a n l) (h' : IntsAt w b n l') (hn : n ≤ 4194304) :
    Calls Try.prog 30 #[.slice a n c, .slice b n d] w fun e w' => e = .returned (.bool (decide (l = l'))) ∧ Below w.heap.size w w' := by
  obtain ⟨hl, hc⟩ := h
  obtain ⟨hl', hc'⟩ := h'
  have HL := hid hl
  have HL' := hid hl'
  clear hl hl'
  go_enter Try.func30, Try.ntmps30
  go_wp2
  go_loopw [5] (fun i wr => ∃ k t : Nat, k ≤ n ∧ i = .int .i64 k ∧ wr = w.drewN t ∧ l.take k = l'.take k) (fun i _ => n - (intOf i).toNat)
  case atStart => exact ⟨0, 0, Nat.zero_le _, rfl, rfl, by simp⟩
  case round =>
    obtain ⟨k, t, hk, rfl, rfl, heq⟩ := hrel
    have HE := hid heq
    clear heq
    by_cases hlt : k < n
    · obtain ⟨b1, off, rfl, hbw, hcell⟩ := hc k hlt
      obtain ⟨b2, off2, rfl, hbw2, hcell2⟩ := hc' k hlt
      clear hc hc'
      have e1 := hid (take_succ' l k (by have := HL.out; omega))
      have e2 := hid (take_succ' l' k (by have := HL'.out; omega))
      by_cases hx : l[k]?.getD 0 = l'[k]?.getD 0
      · have hx' : (l[k]?.getD 0 != l'[k]?.getD 0) = false := by simp [hx]
        have HX := hid hx
        clear hx
        go_wp2
        go_quiet (fail)
        go_wp2
        go_roundw
        case rel => exact ⟨k + 1, _, by omega, by go_num, rfl, by rw [e1.out, e2.out, HE.out, HX.out]⟩
        case measure => simp [intOf]; omega
      · have hx' : (l[k]?.getD 0 != l'[k]?.getD 0) = true := by simp [hx]
        go_wp2
        go_quiet (fail)
        go_wp2
        go_ret
        exact ⟨ret_bool (by symm; simp only [decide_eq_false_iff_not]; intro e; subst e; exact hx rfl), drew_drewN _ _⟩
    · go_wp2
      go_ret
      refine ⟨ret_bool ?_, bdraws _⟩
      have e := HE.out
      rw [List.take_of_length_le (by have := HL.out; omega), List.take_of_length_le (by have := HL'.out; omega)] at e
      simp [e]

theorem l_rInts (a b : Option Addr) (n m c d : Nat) (l l' : List Int) (w : World) (h : IntsAt w a n l) (h' : IntsAt w b m l') (hn : n ≤ 4194304) (hm : m ≤ 4194304) :
    Calls Try.prog 30 #[.slice a n c, .slice b m d] w fun e w' => e = .returned (.bool (decide (l = l'))) ∧ Below w.heap.size w w' := by
  by_cases hnm : n = m
  · subst hnm
    exact l_rInts_eq a b n c d l l' w h h' hn
  · have hne : decide (l = l') = false := by
      simp only [decide_eq_false_iff_not]; intro e; subst e; exact hnm (h.1.symm.trans h'.1)
    clear h h'
    have HN := hid hne
    clear hne
    go_enter Try.func30, Try.ntmps30
    go_wp2
    go_ret
    exact ⟨ret_bool HN.out.symm, Below.refl _ _⟩
theorem l_heldIntS (a : Option Addr) (n c : Nat) (k0 : Int) (w : World) (h : IntsAt w a n (marks k0 n)) (hn : n ≤ 4194304) (hk : 0 ≤ k0 ∧ k0 ≤ 1000000000000) :
    Calls Try.prog 54 #[.slice a n c, .int .i64 k0] w fun e w' => e = .returned (.int .i64 (k0 + n)) ∧ w = w' := by
  obtain ⟨hl, hc⟩ := h
  clear hl
  go_enter Try.func54, Try.ntmps54
  go_wp2
  go_loop [1, 5] (fun s i => ∃ k : Nat, k ≤ n ∧ i = .int .i64 k ∧ s = .int .i64 (k0 + k)) (fun _ i => n - (intOf i).toNat)
  case atStart => exact ⟨0, Nat.zero_le _, rfl, by simp⟩
  case round =>
    obtain ⟨k, hkn, rfl, rfl⟩ := hrel
    by_cases hlt : k < n
    · obtain ⟨b, off, rfl, hbw, hcell⟩ := hc k hlt
      clear hc
      rw [marks_get _ _ _ hlt] at hcell
      go_wp2
      go_round
      case rel => exact ⟨k + 1, by omega, by go_num, by congr 1; omega⟩
      case measure => simp [intOf]; omega
    · go_wp2
      go_ret
      exact ⟨ret_int (by omega), rfl⟩
theorem l_markIntS (a : Option Addr) (n c B : Nat) (l : List Int) (k0 : Int) (w : World) (h : OwnI w B (.slice a n c) l) (hn : n ≤ 4194304) (hk : 0 ≤ k0 ∧ k0 ≤ 1000000000000) :
    Calls Try.prog 53 #[.slice a n c, .int .i64 k0] w fun e w' => e = .returned (.int .i64 (k0 + n)) ∧ OwnI w' B (.slice a n c) (marks k0 n) ∧ w.grownBy w' (Value.ownBlock (.slice a n c)) := by
  rcases h.2 with ⟨h1, h0⟩ | ⟨g, cap, cur, h1, hB, hg, hnc, hm, hs, ht⟩
  · simp only [Value.slice.injEq] at h1
    obtain ⟨rfl, rfl, rfl⟩ := h1
    go_enter Try.func53, Try.ntmps53
    go_wp2
    refine wp_loop_rounds 1 ?_
    rw [rounds_succ]
    go_wp2
    go_ret
    exact ⟨ret_int (by simp), World.ownsRow_nil _ _ _ _, World.grownBy.refl _ _⟩
  · simp only [Value.slice.injEq] at h1
    obtain ⟨rfl, rfl, rfl⟩ := h1
    clear hg hs ht hm hnc hB
    have H := hid h
    clear h
    have HN := hid (rfl : l.length = l.length)
    revert H HN
    generalize hN : l.length = N at hn ⊢
    intro H _
    go_enter Try.func53, Try.ntmps53
    go_wp2
    go_loopw [1, 5] (fun s i wr => ∃ (k : Nat) (l' : List Int), k ≤ N ∧ i = .int .i64 k ∧ s = .int .i64 (k0 + k) ∧ Hid (OwnI wr B (.slice (some ⟨g, 0, none⟩) N c) l' ∧ l'.length = N ∧ (∀ j, j < k → l'[j]?.getD 0 = k0 + j) ∧ w.grownBy wr (some g))) (fun _ i _ => N - (intOf i).toNat)
    case atStart => exact ⟨0, l, Nat.zero_le _, rfl, by simp, H.out, hN, fun j hj => absurd hj (by omega), World.grownBy.refl _ _⟩
    case round =>
      obtain ⟨k, l', hkn, rfl, rfl, hh⟩ := hrel
      by_cases hlt : k < N
      · have hcell := hh.out.1.cell (k := k) hlt
        have hfr := hh.out.1.frozen (k := k)
        go_wp2
        go_roundw
        case rel =>
          refine ⟨k + 1, l'.set k (k0 + k), by omega, by go_num, by congr 1; omega, (hh.out.1.set _).1, by rw [List.length_set]; exact hh.out.2.1, ?_, grownBy_trans hh.out.2.2.2 (hh.out.1.set _).2⟩
          intro j hj
          have hle := hh.out.2.1
          by_cases e : k = j
          · subst e; rw [List.getElem?_set_self (by omega)]; rfl
          · rw [List.getElem?_set_ne e]; exact hh.out.2.2.1 j (by omega)
        case measure => simp [intOf]; omega
      · go_wp2
        go_ret
        have hkN : k = N := by omega
        refine ⟨ret_int (by omega), ?_, hh.out.2.2.2⟩
        subst hkN
        exact (marks_ext hh.out.2.1 hh.out.2.2.1) ▸ hh.out.1

theorem i_copyInts (a : Option Addr) (n c : Nat) (l : List Int) (w : World) (h : IntsAt w a n l) (hn : n ≤ 4194304) :
    Calls Try.prog 84 #[.slice a n c] w fun e w' => ∃ a' c', e = .returned (.slice a' n c') ∧ OwnI w' w.heap.size (.slice a' n c') l ∧ Below w.heap.size w w' := by
  have H := hid h
  clear h
  go_enter Try.func84, Try.ntmps84
  go_wp2_with (at_builtin; refine wp_append_ints _ rfl _ _ rfl w.heap.size _ [] rfl (OwnI.lit0 w) a n c l rfl (H.out.below ((Below.refl _ _).alloc (Nat.le_refl _) _)) n (by simp) (by omega) (by simp) ?_)
  intro a' c' w' hown hgrow _
  have HO := hid hown
  have HG := hid hgrow
  clear hown hgrow
  go_wp2
  go_ret
  exact ⟨_, _, rfl, HO.out, ((Below.refl _ _).alloc (Nat.le_refl _) _).grown HG.out (by simp) (fun k hk => by simp [Value.ownBlock] at hk; omega)⟩
theorem s_l1Own (a : Option Addr) (n c : Nat) (l : List Int) (w : World) (h : IntsAt w a n l) (hn : n ≤ 4194304) :
    Calls Try.prog 82 #[.slice a n c] w fun e w' => ∃ a' c', e = .returned (.slice a' n c') ∧ OwnI w' w.heap.size (.slice a' n c') l ∧ Below w.heap.size w w' := by
  have H := hid h
  clear h
  go_enter Try.func82, Try.ntmps82
  go_wp2_with (at_builtin; refine wp_append_ints _ rfl _ _ rfl w.heap.size _ [] rfl (OwnI.lit0 w) a n c l rfl (H.out.below ((Below.refl _ _).alloc (Nat.le_refl _) _)) n (by simp) (by omega) (by simp) ?_)
  intro a' c' w' hown hgrow _
  have HO := hid hown
  have HG := hid hgrow
  clear hown hgrow
  go_wp2
  go_ret
  exact ⟨_, _, rfl, HO.out, ((Below.refl _ _).alloc (Nat.le_refl _) _).grown HG.out (by simp) (fun k hk => by simp [Value.ownBlock] at hk; omega)⟩
theorem l_toIntS (a : Option Addr) (n c : Nat) (l : List Int) (w : World) (h : IntsAt w a n l) (hn : n ≤ 4194304) :
    Calls Try.prog 48 #[.slice a n c] w fun e w' => ∃ a' c', e = .returned (.slice a' n c') ∧ OwnI w' w.heap.size (.slice a' n c') l ∧ Below w.heap.size w w' := by
  obtain ⟨i0, hi, hz0, hz1, hz2⟩ := info_parts Try.infoInt
  have H := hid h
  clear h
  have HI := hid hi
  have HZ := hid hz0
  have HZ1 := hid hz1
  have HZ2 := hid hz2
  clear hi hz0 hz1 hz2
  go_enter Try.func48, Try.ntmps48
  go_wp2_with (at_make; refine wpList_make_full _ rfl _ _ 22 rfl w.heap.size 3 i0 (.int .i64 0) 1 Try.underlying22 HI.out HZ.out HZ1.out _ _ _ _ n rfl rfl rfl rfl ?b2 ?b3 ?b4 ?_)
  case b2 => rw [HZ2.out]; omega
  case b3 => unfold maxLen; omega
  case b4 => exact Nat.le_refl _
  intro w1 hown hgrow
  have ho := OwnI.made hown
  have HO := hid ho
  have HB := hid (below_of_grown hgrow (Nat.le_refl _) (fun k hk => by simp at hk))
  clear hown ho hgrow
  go_wp2
  go_loopw [4] (fun i wr => ∃ (k : Nat) (l' : List Int), k ≤ n ∧ i = .int .i64 k ∧ Hid (OwnI wr w.heap.size (.slice (some ⟨w.heap.size, 0, none⟩) n n) l' ∧ l'.take k = l.take k ∧ Below w.heap.size w wr)) (fun i _ => n - (intOf i).toNat)
  case atStart => exact ⟨0, List.replicate n 0, Nat.zero_le _, rfl, HO.out, by simp, HB.out⟩
  case round =>
    obtain ⟨k, l', hk, rfl, hh⟩ := hrel
    clear HO HB
    by_cases hlt : k < n
    · obtain ⟨b, off, rfl, hbw, hcell⟩ := (H.out.below hh.out.2.2).2 k hlt
      have hcell2 := hh.out.1.cell (k := k) hlt
      have hfr := hh.out.1.frozen (k := k)
      go_wp2
      go_roundw
      case rel =>
        refine ⟨k + 1, l'.set k (l[k]?.getD 0), by omega, by go_num, (hh.out.1.set _).1, ?_, hh.out.2.2.grown (hh.out.1.set (k := k) (l[k]?.getD 0)).2 hh.out.2.2.size (fun q hq => by simp at hq; omega)⟩
        have hl := hh.out.1.len
        have hl2 := H.out.1
        rw [take_succ' l k (by omega), take_succ' _ k (by rw [List.length_set]; omega), List.take_set, List.getElem?_set_self (by omega), ← hh.out.2.1, List.set_eq_of_length_le (by rw [List.length_take]; omega)]
        rfl
      case measure => simp [intOf]; omega
    · go_wp2
      go_ret
      have hl := hh.out.1.len
      have hl2 := H.out.1
      have e := hh.out.2.1
      rw [List.take_of_length_le (by omega), List.take_of_length_le (by omega)] at e
      exact ⟨_, _, rfl, e ▸ hh.out.1, hh.out.2.2⟩

end Go.Proofs.Ytpmffboojkfpdaa
