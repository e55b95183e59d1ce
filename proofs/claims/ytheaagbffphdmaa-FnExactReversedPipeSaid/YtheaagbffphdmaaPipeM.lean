/-
  What the laws do with pipes and networks: they mark them and look at the marks.
-/
import Derived.Test.YtheaagbffphdmaaNetC
set_option linter.unusedVariables false
set_option linter.unusedSimpArgs false
namespace Go.Proofs.Ytheaagbffphdmaa
open Go.RowKit

/-- The marked list. -/
def markedPipe (k0 : Int) (n : Nat) : List Pip := (List.range n).map (fun i : Nat => ((k0 + 4 * (i : Int), k0 + 4 * (i : Int) + 1, k0 + 4 * (i : Int) + 1 + 1, k0 + 4 * (i : Int) + 1 + 1 + 1) : Pip))
theorem markedPipe_len (k0 : Int) (n : Nat) : (markedPipe k0 n).length = n := by simp [markedPipe]
theorem markedPipe_get (k0 : Int) (n i : Nat) (h : i < n) : (markedPipe k0 n)[i]?.getD default = ((k0 + 4 * (i : Int), k0 + 4 * (i : Int) + 1, k0 + 4 * (i : Int) + 1 + 1, k0 + 4 * (i : Int) + 1 + 1 + 1) : Pip) := by simp [markedPipe, h]

theorem l_heldPipeS (a : Option Addr) (n c : Nat) (k0 : Int) (w : World) (h : QAt w a n (markedPipe k0 n)) (hn : n ≤ 1048576) (hk : 0 ≤ k0 ∧ k0 ≤ 1000000000000) :
    Calls Try.prog 87 #[.slice a n c, .int .i64 k0] w fun e w' => e = .returned (.int .i64 (k0 + 4 * (n : Int))) ∧ w = w' := by
  have H := hid h
  clear h
  go_enter Try.func87, Try.ntmps87
  go_wp2
  go_loop [1, 5] (fun s i => ∃ k : Nat, k ≤ n ∧ i = .int .i64 k ∧ s = .int .i64 (k0 + 4 * (k : Int))) (fun _ i => n - (intOf i).toNat)
  case atStart => exact ⟨0, Nat.zero_le _, rfl, by simp⟩
  case round =>
    obtain ⟨k, hkn, rfl, rfl⟩ := hrel
    by_cases hlt : k < n
    · obtain ⟨b1, off1, rfl, hb1, hx⟩ := H.out.2 k hlt
      have x0 := hx 0 (by decide)
      have x1 := hx 1 (by decide)
      have x2 := hx 2 (by decide)
      have x3 := hx 3 (by decide)
      rw [markedPipe_get k0 n k hlt] at x0 x1 x2 x3
      simp only [qf, List.getElem?_cons_zero, List.getElem?_cons_succ, Nat.add_zero] at x0 x1 x2 x3
      clear hx
      go_wp2
      go_round
      case rel => exact ⟨k + 1, by omega, by go_num, by congr 1; omega⟩
      case measure => simp [intOf]; omega
    · go_wp2
      go_ret
      exact ⟨ret_int (by omega), rfl⟩

set_option maxHeartbeats 2000000 in
theorem l_markPipeS (a : Option Addr) (n c B : Nat) (l : List Pip) (k0 : Int) (w : World) (h : OwnQ w B (.slice a n c) l) (hn : n ≤ 1048576) (hk : 0 ≤ k0 ∧ k0 ≤ 1000000000000) :
    Calls Try.prog 86 #[.slice a n c, .int .i64 k0] w fun e w' => e = .returned (.int .i64 (k0 + 4 * (n : Int))) ∧ OwnQ w' B (.slice a n c) (markedPipe k0 n) ∧ w.grownBy w' (Value.ownBlock (.slice a n c)) := by
  have h0 := h
  unfold OwnQ OwnS at h
  rcases h.2 with ⟨h1, h0'⟩ | ⟨g, cap, cur, h1, hB, hg, hnc, hm, hs, ht⟩
  · simp only [Value.slice.injEq] at h1
    obtain ⟨rfl, rfl, rfl⟩ := h1
    clear h h0 h0'
    go_enter Try.func86, Try.ntmps86
    go_wp2
    refine wp_loop_rounds 1 ?_
    rw [rounds_succ]
    go_wp2
    go_ret
    exact ⟨ret_int (by simp), OwnS.nil _ _, World.grownBy.refl _ _⟩
  · simp only [Value.slice.injEq] at h1
    obtain ⟨rfl, -, rfl⟩ := h1
    clear hg hs ht hm hnc hB h
    have H := hid h0
    have HN := hid (OwnS.len h0)
    clear h0
    go_enter Try.func86, Try.ntmps86
    go_wp2
    go_loopw [1, 5] (fun s i wr => ∃ (k : Nat) (l' : List Pip), k ≤ n ∧ i = .int .i64 k ∧ s = .int .i64 (k0 + 4 * (k : Int)) ∧ Hid (OwnQ wr B (.slice (some ⟨g, 0, none⟩) n c) l' ∧ l'.take k = (markedPipe k0 n).take k ∧ w.grownBy wr (some g))) (fun _ i _ => n - (intOf i).toNat)
    case atStart => exact ⟨0, l, Nat.zero_le _, rfl, by simp, H.out, by simp, World.grownBy.refl _ _⟩
    case round =>
      obtain ⟨k, l', hkn, rfl, rfl, hh⟩ := hrel
      by_cases hlt : k < n
      · obtain ⟨y0, y1, y2, y3⟩ := hh.out.1.cells (k := k) hlt
        obtain ⟨f0, f1, f2, f3⟩ := hh.out.1.frozen (k := k)
        go_wp2
        go_roundw
        case rel =>
          obtain ⟨o1, g1⟩ := OwnS.setAll qf_len (by decide) hh.out.1 hlt ((k0 + 4 * (k : Int), k0 + 4 * (k : Int) + 1, k0 + 4 * (k : Int) + 1 + 1, k0 + 4 * (k : Int) + 1 + 1 + 1) : Pip)
          exact ⟨k + 1, _, by omega, by go_num, by congr 1; omega, o1, by rw [← markedPipe_get k0 n k hlt]; exact take_setS (markedPipe_len _ _) hh.out.1.len hlt hh.out.2.1, grownBy_trans hh.out.2.2 g1⟩
        case measure => simp [intOf]; omega
      · go_wp2
        go_ret
        obtain rfl : k = n := by omega
        refine ⟨ret_int (by omega), ?_, hh.out.2.2⟩
        have e := hh.out.2.1
        rw [List.take_of_length_le (by have := hh.out.1.len; omega), List.take_of_length_le (by rw [markedPipe_len]; omega)] at e
        subst e
        exact hh.out.1

theorem l_markNetwork (N : Int) (a : Option Addr) (n c B : Nat) (l : List Pip) (k0 : Int) (w : World) (h : OwnQ w B (.slice a n c) l) (hn : n ≤ 1048576) (hk : 0 ≤ k0 ∧ k0 ≤ 1000000000000) :
    Calls Try.prog 40 #[.agg #[.int .i64 N, .slice a n c], .int .i64 k0] w fun e w' => e = .returned (.int .i64 (k0 + 4 * (n : Int))) ∧ OwnQ w' B (.slice a n c) (markedPipe k0 n) ∧ w.grownBy w' (Value.ownBlock (.slice a n c)) := by
  have H := hid h
  clear h
  go_enter Try.func40, Try.ntmps40
  go_wp2_with fail
  refine (l_markPipeS _ _ _ B l _ _ (OwnS.alloc H.out _) (by omega) hk).mono ?_
  rintro e w1 ⟨rfl, ho, hg⟩
  have HO := hid ho
  have HG := hid (grownBy_trans (grown_of_below ((Below.refl w.heap.size w).alloc (Nat.le_refl _) _) _) hg)
  clear ho hg
  go_wp2
  go_ret
  exact ⟨rfl, HO.out, HG.out⟩

theorem l_heldNetwork (N : Int) (a : Option Addr) (n c : Nat) (k0 : Int) (w : World) (h : QAt w a n (markedPipe k0 n)) (hn : n ≤ 1048576) (hk : 0 ≤ k0 ∧ k0 ≤ 1000000000000) :
    Calls Try.prog 42 #[.agg #[.int .i64 N, .slice a n c], .int .i64 k0] w fun e w' => e = .returned (.int .i64 (k0 + 4 * (n : Int))) ∧ Below w.heap.size w w' := by
  have H := hid h
  clear h
  go_enter Try.func42, Try.ntmps42
  go_wp2_with fail
  refine (l_heldPipeS _ _ _ _ _ (H.out.below (by go_grown)) (by omega) hk).mono ?_
  rintro e _ ⟨rfl, rfl⟩
  go_wp2
  go_ret
  exact ⟨rfl, by go_grown⟩

end Go.Proofs.Ytheaagbffphdmaa
