/-
  SplitFlow, in the program and in the reference, for all arguments.
-/
import Derived.Test.YtpmffboojkfpdaaSplitI
import Derived.Test.YtpmffboojkfpdaaSplitR
set_option linter.unusedVariables false
set_option linter.unusedSimpArgs false
namespace Go.Proofs.Ytpmffboojkfpdaa
open Go.RowKit

/-- What SplitFlow returns. -/
def splitR (S : List Int) (t : Int) : List Int × Bool := if (goodSizes S && inR t 0 60) = true then (liftN (greedy S t.toNat), true) else ([], false)
theorem splitR_len {S R : List Int} {t : Int} {b : Bool} (h : splitR S t = (R, b)) : R.length ≤ 1000 := by
  unfold splitR at h
  split at h
  · rename_i hv
    simp only [Bool.and_eq_true] at hv
    simp only [Prod.mk.injEq] at h
    obtain ⟨rfl, rfl⟩ := h
    rw [liftN_len, greedy_len]
    have := (goodSizes_iff.1 hv.1).1
    omega
  · simp only [Prod.mk.injEq] at h
    obtain ⟨rfl, rfl⟩ := h
    simp

set_option maxHeartbeats 2000000 in
theorem i_SplitFlow (a : Option Addr) (n c : Nat) (t : Int) (S : List Int) (w : World) (h : IntsAt w a n S) (hn : n ≤ 1048576) (R : List Int) (b : Bool) (hR : splitR S t = (R, b)) :
    Calls Try.prog 52 #[.slice a n c, .int .i64 t] w fun e w' => ∃ a' c', e = .returned (.tuple #[.slice a' R.length c', .bool b]) ∧ OwnI w' w.heap.size (.slice a' R.length c') R ∧ Below w.heap.size w w' := by
  have hl := h.1
  cases h1 : goodSizes S
  · have e : splitR S t = ([], false) := by unfold splitR; simp [h1]
    rw [e] at hR
    simp only [Prod.mk.injEq] at hR
    obtain ⟨rfl, rfl⟩ := hR
    have H1 := hid h1
    have H := hid h
    clear h1 h hl e
    go_enter Try.func52, Try.ntmps52
    go_wp2_with fail
    refine (i_areSizes _ _ _ S _ H.out (by omega)).mono ?_
    rintro e w1 ⟨rfl, hb1⟩
    rw [H1.out]
    go_wp2
    go_ret2
    exact ⟨_, _, rfl, OwnI.nil _ _, hb1⟩
  · cases h2 : inR t 0 60
    · have e : splitR S t = ([], false) := by unfold splitR; simp [h2]
      rw [e] at hR
      simp only [Prod.mk.injEq] at hR
      obtain ⟨rfl, rfl⟩ := hR
      have H1 := hid h1
      have H2 := hid h2
      have H := hid h
      clear h1 h2 h hl e
      go_enter Try.func52, Try.ntmps52
      go_wp2_with fail
      refine (i_areSizes _ _ _ S _ H.out (by omega)).mono ?_
      rintro e w1 ⟨rfl, hb1⟩
      rw [H1.out]
      go_wp2_with fail
      refine (i_inside _ _ _ _).mono ?_
      rintro e _ ⟨rfl, rfl⟩
      rw [H2.out]
      go_wp2
      go_ret2
      exact ⟨_, _, rfl, OwnI.nil _ _, hb1⟩
    · have ht := inR_iff.1 h2
      obtain ⟨k, rfl⟩ : ∃ k : Nat, t = (k : Int) := ⟨t.toNat, by omega⟩
      have e : splitR S (k : Int) = (liftN (greedy S k), true) := by unfold splitR; rw [if_pos (by simp [h1, h2])]; simp
      rw [e] at hR
      simp only [Prod.mk.injEq] at hR
      obtain ⟨rfl, rfl⟩ := hR
      have e2 : (liftN (greedy S k)).length = n := by rw [liftN_len, greedy_len]; exact hl
      rw [e2]
      exact i_SplitFlow_yes a n c k S w h h1 (by omega)

set_option maxHeartbeats 2000000 in
theorem s_SplitFlow (a : Option Addr) (n c : Nat) (t : Int) (S : List Int) (w : World) (h : IntsAt w a n S) (hn : n ≤ 1048576) (R : List Int) (b : Bool) (hR : splitR S t = (R, b)) :
    Calls Try.prog 51 #[.slice a n c, .int .i64 t] w fun e w' => ∃ a' c', e = .returned (.tuple #[.slice a' R.length c', .bool b]) ∧ OwnI w' w.heap.size (.slice a' R.length c') R ∧ Below w.heap.size w w' := by
  have hl := h.1
  cases h1 : goodSizes S
  · have e : splitR S t = ([], false) := by unfold splitR; simp [h1]
    rw [e] at hR
    simp only [Prod.mk.injEq] at hR
    obtain ⟨rfl, rfl⟩ := hR
    have H1 := hid h1
    have H := hid h
    clear h1 h hl e
    go_enter Try.func51, Try.ntmps51
    go_wp2_with fail
    refine (s_l10Sizes _ _ _ S _ H.out (by omega)).mono ?_
    rintro e _ ⟨rfl, rfl⟩
    rw [H1.out]
    go_wp2
    go_ret2
    exact ⟨_, _, rfl, OwnI.lit0 _, by go_grown⟩
  · cases h2 : inR t 0 60
    · have e : splitR S t = ([], false) := by unfold splitR; simp [h2]
      rw [e] at hR
      simp only [Prod.mk.injEq] at hR
      obtain ⟨rfl, rfl⟩ := hR
      have H1 := hid h1
      have H2 := hid h2
      have H := hid h
      clear h1 h2 h hl e
      go_enter Try.func51, Try.ntmps51
      go_wp2_with fail
      refine (s_l10Sizes _ _ _ S _ H.out (by omega)).mono ?_
      rintro e _ ⟨rfl, rfl⟩
      rw [H1.out]
      go_wp2_with fail
      refine (s_l1In _ _ _ _).mono ?_
      rintro e _ ⟨rfl, rfl⟩
      rw [H2.out]
      go_wp2
      go_ret2
      exact ⟨_, _, rfl, OwnI.lit0 _, by go_grown⟩
    · have ht := inR_iff.1 h2
      obtain ⟨k, rfl⟩ : ∃ k : Nat, t = (k : Int) := ⟨t.toNat, by omega⟩
      have e : splitR S (k : Int) = (liftN (greedy S k), true) := by unfold splitR; rw [if_pos (by simp [h1, h2])]; simp
      rw [e] at hR
      simp only [Prod.mk.injEq] at hR
      obtain ⟨rfl, rfl⟩ := hR
      have e2 : (liftN (greedy S k)).length = n := by rw [liftN_len, greedy_len]; exact hl
      rw [e2]
      exact s_SplitFlow_yes a n c k S w h h1 (by omega)

end Go.Proofs.Ytpmffboojkfpdaa
