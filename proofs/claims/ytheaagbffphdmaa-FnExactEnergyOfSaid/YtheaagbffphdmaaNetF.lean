/-
  Networks: the energy of flows.
-/
import Derived.Test.YtheaagbffphdmaaNetE
set_option linter.unusedVariables false
set_option linter.unusedSimpArgs false
namespace Go.Proofs.Ytheaagbffphdmaa
open Go.RowKit

theorem enters_EnergyOf : enters 69 := by intro args w; kernel_rfl
theorem i_EnergyOf1 (x : Int) (w : World) (hx : -8000 ≤ x ∧ x ≤ 8000) : Calls Try.prog 69 #[.int .i64 x] w fun e w' => e = .returned (.bool (!inR x (-2000) 2000)) ∧ Below w.heap.size w w' := by
  go_enter Try.func69, Try.ntmps69
  go_wp2_with fail
  refine (i_absOf _ _ (by omega)).mono ?_
  rintro e w' ⟨rfl, rfl⟩
  go_wp2
  all_goals go_ret
  all_goals refine ⟨ret_bool ?_, by go_grown⟩
  all_goals (rw [Bool.eq_iff_iff]; simp [inR]; omega)

/-- What EnergyOf returns. -/
def slow (fs : List Int) : Bool := !fs.any (fun x => !inR x (-2000) 2000)
def energyR (N : Int) (l : List Pip) (fs : List Int) : Int × Bool := if goodNet N l = true ∧ goodFl l.length fs = true ∧ slow fs = true then (enrg l fs l.length, true) else (0, false)
theorem slow_iff {fs : List Int} : slow fs = true ↔ ∀ x ∈ fs, -2000 ≤ x ∧ x ≤ 2000 := by simp only [slow, Bool.not_eq_true', any_in]

theorem enrg_le {N : Int} {l : List Pip} {fs : List Int} (hg : goodNet N l = true) (hl : fs.length = l.length) (hs : slow fs = true) : ∀ k, k ≤ l.length → -(72000000000 * (k : Int)) ≤ enrg l fs k ∧ enrg l fs k ≤ 72000000000 * (k : Int)
  | 0, _ => by simp [enrg]
  | k + 1, hk => by
    have ih := enrg_le hg hl hs k (by omega)
    have hp := goodNet_pipe hg (k := k) (by omega)
    have hq := slow_iff.1 hs _ (getD_mem' (k := k) (by omega))
    have := (enrg_fit hp.2.2.2.2 hq).2.2
    rw [enrg_succ]
    push_cast
    omega

set_option maxRecDepth 100000 in
set_option maxHeartbeats 2000000 in
theorem i_energyOf (N : Int) (a b : Option Addr) (n c d : Nat) (l : List Pip) (fs : List Int) (w : World) (h : QAt w a n l) (h' : IntsAt w b n fs) (hg : goodNet N l = true) (hs : slow fs = true) :
    Calls Try.prog 71 #[.agg #[.int .i64 N, .slice a n c], .slice b n d] w fun e w' => e = .returned (.int .i64 (enrg l fs n)) ∧ Below w.heap.size w w' := by
  have H := hid h
  have H' := hid h'
  have HG := hid hg
  have HS := hid hs
  have HL := hid h.1
  have HL' := hid h'.1
  have hn : n ≤ 10 := by have := (goodNet_get hg).2.1; have := h.1; omega
  clear h h' hg hs
  go_enter Try.func71, Try.ntmps71
  go_wp2
  go_loopg [5, 11] n (fun g t i wr => ∃ k : Nat, k ≤ n ∧ g = n - k ∧ i = .int .i64 k ∧ t = .int .i64 (enrg l fs k) ∧ Hid (Below w.heap.size w wr))
  case atStart => exact ⟨0, Nat.zero_le _, rfl, rfl, by simp [enrg], hid (by go_grown)⟩
  case round =>
    obtain ⟨k, hk, rfl, rfl, rfl, hB⟩ := hrel
    by_cases hlt : k < n
    · obtain ⟨b0, off0, rfl, hbw, x0, x1, x2, x3⟩ := QAt.get (H.out.below hB.out) k hlt
      obtain ⟨b1, off1, rfl, hbw1, hcell⟩ := (H'.out.below hB.out).2 k hlt
      have hp := (goodNet_pipe HG.out (k := k) (by have := HL.out; omega)).2.2.2.2
      have hq := slow_iff.1 HS.out _ (getD_mem' (k := k) (by have := HL'.out; omega))
      obtain ⟨f1, f2, f3⟩ := enrg_fit hp hq
      have f4 := enrg_le HG.out (by have := HL.out; have := HL'.out; omega) HS.out k (by have := HL.out; omega)
      have hw1 := IntWalk.i64_in ((pp l k).2.2.2 * max (fs[k]?.getD 0) (-(fs[k]?.getD 0))) (by omega)
      have hw2 := IntWalk.i64_in ((pp l k).2.2.2 * max (fs[k]?.getD 0) (-(fs[k]?.getD 0)) * fs[k]?.getD 0) (by omega)
      have hw3 := IntWalk.i64_in ((pp l k).2.2.2 * max (fs[k]?.getD 0) (-(fs[k]?.getD 0)) * fs[k]?.getD 0 * fs[k]?.getD 0) (by omega)
      have hw4 := IntWalk.i64_in (enrg l fs k + (pp l k).2.2.2 * max (fs[k]?.getD 0) (-(fs[k]?.getD 0)) * fs[k]?.getD 0 * fs[k]?.getD 0) (by omega)
      go_upto_region 5 with fail
      obtain ⟨X0, -⟩ := bcell (Below.alloc (Below.refl wr.heap.size wr) (Nat.le_refl _) (.cells #[.int .i64 (pp l k).1, .int .i64 (pp l k).2.1, .int .i64 (pp l k).2.2.1, .int .i64 (pp l k).2.2.2] 65))
      have X := hid (show Below w.heap.size w (wr.alloc (.cells #[.int .i64 (pp l k).1, .int .i64 (pp l k).2.1, .int .i64 (pp l k).2.2.1, .int .i64 (pp l k).2.2.2] 65)).drew ∧ (wr.alloc (.cells #[.int .i64 (pp l k).1, .int .i64 (pp l k).2.1, .int .i64 (pp l k).2.2.1, .int .i64 (pp l k).2.2.2] 65)).drew.cell? ⟨wr.heap.size, 3, none⟩ = some (.int .i64 (pp l k).2.2.2) ∧ (wr.alloc (.cells #[.int .i64 (pp l k).1, .int .i64 (pp l k).2.1, .int .i64 (pp l k).2.2.1, .int .i64 (pp l k).2.2.2] 65)).drew.cell? ⟨b1, off1 + k, none⟩ = some (.int .i64 (fs[k]?.getD 0)) from ⟨(hB.out.alloc hB.out.size _).drew, cell_of_row _ _ 3 _ _ (0, 0) (heap_alloc_new _ _), (X0 _ _ (by omega)).trans hcell⟩)
      clear X0 x0 x1 x2 x3 hcell
      refine wp_region_calm (C := (fun w' => Below w.heap.size w w' ∧ w'.cell? ⟨wr.heap.size, 3, none⟩ = some (.int .i64 (pp l k).2.2.2) ∧ w'.cell? ⟨b1, off1 + k, none⟩ = some (.int .i64 (fs[k]?.getD 0)))) (by kernel_rfl) (by kernel_rfl) (X.out) ?_
      repeat
        first
          | go_big_quiet_skip
          | (go_big_quiet_want
             first
               | (unfold Oper.quiet
                  apply Exists.intro
                  refine ⟨fun wq hq => ?_, ?_⟩
                  · (try dsimp only at hq
                     simp [go_sem, Oper.quietAt, Oper.quietUpon, BigFrame.eval_const, BigFrame.eval_global, BigFrame.eval_func, ↓IntWalk.iteOmega, *]
                     first | done | rfl | (refine calm_same hq (i_absOf _ _ (by omega)) rfl))
                  simp only [Act.put, List.setIfInBounds_toArray, List.set_cons_succ, List.set_cons_zero]
                  go_big_quiet_on))
      refine wpQuiet_nil ?_
      intro wc hcalm
      try dsimp only at hcalm
      have HB := hid hcalm.1
      clear hcalm
      clear hw1 hw2 hw3 hw4 X
      go_wp2
      go_roundg (n - (k + 1))
      case rel => exact ⟨k + 1, by omega, rfl, by go_num, by rw [enrg_succ], HB⟩
      case measure => omega
    · obtain rfl : k = n := by omega
      go_wp2
      go_ret
      exact ⟨rfl, hB.out⟩

set_option maxRecDepth 100000 in
set_option maxHeartbeats 2000000 in
theorem s_l9Energy (N : Int) (a b : Option Addr) (n c d : Nat) (l : List Pip) (fs : List Int) (w : World) (h : QAt w a n l) (h' : IntsAt w b n fs) (hg : goodNet N l = true) (hs : slow fs = true) :
    Calls Try.prog 67 #[.agg #[.int .i64 N, .slice a n c], .slice b n d] w fun e w' => e = .returned (.int .i64 (enrg l fs n)) ∧ Below w.heap.size w w' := by
  have H := hid h
  have H' := hid h'
  have HG := hid hg
  have HS := hid hs
  have HL := hid h.1
  have HL' := hid h'.1
  have hn : n ≤ 10 := by have := (goodNet_get hg).2.1; have := h.1; omega
  clear h h' hg hs
  go_enter Try.func67, Try.ntmps67
  go_wp2
  go_loopg [5, 6] n (fun g t i wr => ∃ k : Nat, k ≤ n ∧ g = n - k ∧ i = .int .i64 k ∧ t = .int .i64 (enrg l fs k) ∧ Hid (Below w.heap.size w wr ∧ wr.cell? ⟨w.heap.size, 1, none⟩ = some (.slice a n c)))
  case atStart => exact ⟨0, Nat.zero_le _, rfl, rfl, by simp [enrg], hid ⟨by go_grown, cell_of_row _ _ 1 _ _ (0, 0) (heap_alloc_new _ _)⟩⟩
  case round =>
    obtain ⟨k, hk, rfl, rfl, rfl, hB⟩ := hrel
    by_cases hlt : k < n
    · obtain ⟨b0, off0, rfl, hbw, x0, x1, x2, x3⟩ := QAt.get (H.out.below hB.out.1) k hlt
      obtain ⟨b1, off1, rfl, hbw1, hcell⟩ := (H'.out.below hB.out.1).2 k hlt
      have hp := (goodNet_pipe HG.out (k := k) (by have := HL.out; omega)).2.2.2.2
      have hq := slow_iff.1 HS.out _ (getD_mem' (k := k) (by have := HL'.out; omega))
      obtain ⟨f1, f2, f3⟩ := enrg_fit hp hq
      have f4 := enrg_le HG.out (by have := HL.out; have := HL'.out; omega) HS.out k (by have := HL.out; omega)
      have hw1 := IntWalk.i64_in ((pp l k).2.2.2 * max (fs[k]?.getD 0) (-(fs[k]?.getD 0))) (by omega)
      have hw2 := IntWalk.i64_in ((pp l k).2.2.2 * max (fs[k]?.getD 0) (-(fs[k]?.getD 0)) * fs[k]?.getD 0) (by omega)
      have hw3 := IntWalk.i64_in ((pp l k).2.2.2 * max (fs[k]?.getD 0) (-(fs[k]?.getD 0)) * fs[k]?.getD 0 * fs[k]?.getD 0) (by omega)
      have hw4 := IntWalk.i64_in (enrg l fs k + (pp l k).2.2.2 * max (fs[k]?.getD 0) (-(fs[k]?.getD 0)) * fs[k]?.getD 0 * fs[k]?.getD 0) (by omega)
      go_upto_region 5 with fail
      have X := hid (show Below w.heap.size w wr.drew ∧ wr.drew.cell? ⟨b0, off0 + k * 4 + 3, none⟩ = some (.int .i64 (pp l k).2.2.2) ∧ wr.drew.cell? ⟨b1, off1 + k, none⟩ = some (.int .i64 (fs[k]?.getD 0)) ∧ wr.drew.cell? ⟨w.heap.size, 1, none⟩ = some (.slice (some ⟨b0, off0, none⟩) n c) from ⟨hB.out.1.drew, x3, hcell, hB.out.2⟩)
      clear x0 x1 x2 x3 hcell
      refine wp_region_calm (C := (fun w' => Below w.heap.size w w' ∧ w'.cell? ⟨b0, off0 + k * 4 + 3, none⟩ = some (.int .i64 (pp l k).2.2.2) ∧ w'.cell? ⟨b1, off1 + k, none⟩ = some (.int .i64 (fs[k]?.getD 0)) ∧ w'.cell? ⟨w.heap.size, 1, none⟩ = some (.slice (some ⟨b0, off0, none⟩) n c))) (by kernel_rfl) (by kernel_rfl) (X.out) ?_
      repeat
        first
          | go_big_quiet_skip
          | (go_big_quiet_want
             first
               | (unfold Oper.quiet
                  apply Exists.intro
                  refine ⟨fun wq hq => ?_, ?_⟩
                  · (try dsimp only at hq
                     simp [go_sem, Oper.quietAt, Oper.quietUpon, BigFrame.eval_const, BigFrame.eval_global, BigFrame.eval_func, ↓IntWalk.iteOmega, *]
                     first | done | rfl | (refine calm_same hq (s_l8Abs _ _ (by omega)) rfl))
                  simp only [Act.put, List.setIfInBounds_toArray, List.set_cons_succ, List.set_cons_zero]
                  go_big_quiet_on))
      refine wpQuiet_nil ?_
      intro wc hcalm
      try dsimp only at hcalm
      have HB := hid (show Below w.heap.size w wc ∧ wc.cell? ⟨w.heap.size, 1, none⟩ = some (.slice (some ⟨b0, off0, none⟩) n c) from ⟨hcalm.1, hcalm.2.2.2⟩)
      clear hcalm
      clear hw1 hw2 hw3 hw4 X
      go_wp2
      go_roundg (n - (k + 1))
      case rel => exact ⟨k + 1, by omega, rfl, by go_num, by rw [enrg_succ], HB⟩
      case measure => omega
    · obtain rfl : k = n := by omega
      have n1 := hB.out.2
      have hz0 : w.heap.size < wr.heap.size := World.block_lt_of_cell? wr _ n1
      go_wp2
      go_ret
      exact ⟨rfl, hB.out.1⟩

end Go.Proofs.Ytheaagbffphdmaa
