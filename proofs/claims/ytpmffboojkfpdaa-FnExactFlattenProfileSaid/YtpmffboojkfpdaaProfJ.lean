/-
  Flattening a profile: the program and the reference.
-/
import Derived.Test.YtpmffboojkfpdaaProfI
import Derived.Test.YtpmffboojkfpdaaProfH3
set_option linter.unusedVariables false
set_option linter.unusedSimpArgs false
namespace Go.Proofs.Ytpmffboojkfpdaa
open Go.RowKit

theorem own_some {w : World} {B n c : Nat} {a : Option Addr} {l : List Int} (h : OwnI w B (.slice a n c) l) (hn : 0 < n) : ∃ g, a = some ⟨g, 0, none⟩ ∧ B ≤ g ∧ g < w.heap.size := by
  have hlt := h.lt
  have hl := h.len
  unfold OwnI at h
  rcases h.2 with ⟨h1, h0⟩ | ⟨g, cap, cur, h1, hB, hg, hnc, hm, hs, ht⟩
  · simp only [Value.slice.injEq] at h1
    omega
  · simp only [Value.slice.injEq] at h1
    obtain ⟨rfl, -, rfl⟩ := h1
    exact ⟨g, rfl, hlt g rfl⟩

theorem f_Index (a : Option Addr) (n c p : Nat) (v : Int) (l : List Int) (w : World) (h : IntsAt w a n l) (hn : n ≤ 4194304) (hp : p < n) (hv : el l p = v) (hf : ∀ j, j < p → el l j ≠ v) :
    Calls Try.prog 85 #[.slice a n c, .int .i64 v] w fun e w' => e = .returned (.int .i64 p) ∧ w = w' := by
  have H := hid h
  have HF := hid hf
  have HV := hid hv
  clear h hf hv
  go_enter Try.func85, Try.ntmps85
  go_wp2
  go_loopg [8] p (fun g i wr => ∃ k : Nat, k ≤ p ∧ g = p - k ∧ i = .int .i64 k ∧ w = wr)
  case atStart => exact ⟨0, Nat.zero_le _, rfl, rfl, rfl⟩
  case round =>
    obtain ⟨k, hk, rfl, rfl, rfl⟩ := hrel
    have hkn : k < n := by omega
    obtain ⟨b, off, rfl, hbw, hcell⟩ := H.out.2 k hkn
    by_cases hlt : k < p
    · have hne : ¬ v = l[k]?.getD 0 := fun e => HF.out k hlt e.symm
      go_wp2
      go_roundg (p - (k + 1))
      case rel => exact ⟨k + 1, by omega, rfl, by go_num, rfl⟩
      case measure => omega
    · obtain rfl : k = p := by omega
      have ha : v ≤ l[k]?.getD 0 := by have := HV.out; simp only [el] at this; omega
      have hb : l[k]?.getD 0 ≤ v := by have := HV.out; simp only [el] at this; omega
      go_wp2
      go_ret
      exact ⟨rfl, rfl⟩

set_option maxHeartbeats 1000000 in
theorem s_l6Peak (a : Option Addr) (n c : Nat) (l : List Int) (w : World) (h : IntsAt w a n l) (hn1 : 1 ≤ n) (hn : n ≤ 4194304) :
    Calls Try.prog 83 #[.slice a n c] w fun e w' => e = .returned (.int .i64 (pkTo l n)) ∧ Below w.heap.size w w' := by
  have H := hid h
  obtain ⟨b, off, rfl, hbw0, -⟩ := h.2 0 (by omega)
  clear h
  go_enter Try.func83, Try.ntmps83
  go_wp2
  go_loopg [3, 4] (n - 1) (fun g s i wr => ∃ k : Nat, 1 ≤ k ∧ k ≤ n ∧ g = n - k ∧ i = .int .i64 k ∧ s = .int .i64 (pkTo l k) ∧ Hid (Below w.heap.size w wr))
  case atStart => exact ⟨1, by omega, hn1, rfl, rfl, by simp [pkTo], hid (Below.refl _ _)⟩
  case round =>
    obtain ⟨k, hk1, hk, rfl, rfl, rfl, hB⟩ := hrel
    by_cases hlt : k < n
    · have hpk := pkTo_lt l k hk1
      have hpn : pkTo l k < n := by omega
      obtain ⟨_, _, e1, hbw, hck⟩ := (H.out.below hB.out).2 k hlt
      cases e1
      obtain ⟨_, _, e2, _, hcp⟩ := (H.out.below hB.out).2 (pkTo l k) hpn
      cases e2
      by_cases hgt : l[pkTo l k]?.getD 0 < l[k]?.getD 0
      · have E := hid (show pkTo l (k + 1) = k by simp [pkTo, el, hgt])
        go_wp2
        go_quiet (fail)
        go_wp2
        go_roundg (n - (k + 1))
        case rel => exact ⟨k + 1, by omega, by omega, rfl, by go_num, by rw [E.out], hid (below_drewN hB.out _)⟩
        case measure => omega
      · have E := hid (show pkTo l (k + 1) = pkTo l k by simp [pkTo, el, hgt])
        go_wp2
        go_quiet (fail)
        go_wp2
        go_roundg (n - (k + 1))
        case rel => exact ⟨k + 1, by omega, by omega, rfl, by go_num, by rw [E.out], hid (below_drewN hB.out _)⟩
        case measure => omega
    · obtain rfl : k = n := by omega
      go_wp2
      go_ret
      exact ⟨rfl, hB.out⟩

/-- The two stores of a step. -/
theorem own_step {w : World} {B g c : Nat} {L : List Int} (h : OwnI w B (.slice (some ⟨g, 0, none⟩) 24 c) L) (hne : pkTo L 24 ≠ lwTo L 24) :
    OwnI ((w.setCell ⟨g, pkTo L 24, none⟩ (.int .i64 (el L (pkTo L 24) - 1))).setCell ⟨g, lwTo L 24, none⟩ (.int .i64 (el L (lwTo L 24) + 1))) B (.slice (some ⟨g, 0, none⟩) 24 c) (stepF L) ∧
      w.grownBy ((w.setCell ⟨g, pkTo L 24, none⟩ (.int .i64 (el L (pkTo L 24) - 1))).setCell ⟨g, lwTo L 24, none⟩ (.int .i64 (el L (lwTo L 24) + 1))) (some g) := by
  have hl := h.len
  have h1 := h.set (k := pkTo L 24) (el L (pkTo L 24) - 1)
  have h2 := h1.1.set (k := lwTo L 24) (el L (lwTo L 24) + 1)
  refine ⟨?_, grownBy_trans h1.2 h2.2⟩
  have e : stepF L = (L.set (pkTo L 24) (el L (pkTo L 24) - 1)).set (lwTo L 24) (el L (lwTo L 24) + 1) := by
    simp only [stepF]
    rw [el_set _ _ _ _ (by have := pkTo_lt L 24 (by omega); omega), if_neg hne]
  rw [e]
  exact h2.1

end Go.Proofs.Ytpmffboojkfpdaa
