/-
  Networks: HeaviestPipe and SteepestPipe of the program.
-/
import Derived.Test.YtheaagbffphdmaaNetG
set_option linter.unusedVariables false
set_option linter.unusedSimpArgs false
namespace Go.Proofs.Ytheaagbffphdmaa
open Go.RowKit

theorem heavyR_no {N : Int} {l : List Pip} {fs : List Int} (h : goodNet N l = false ∨ goodFl l.length fs = false ∨ l.length = 0) : heavyR N l fs = (0, 0, false) := by
  unfold heavyR
  rw [if_neg]
  rintro ⟨h1, h2, h3⟩
  rcases h with h | h | h
  · rw [h1] at h; cases h
  · rw [h2] at h; cases h
  · exact h3 (List.eq_nil_of_length_eq_zero h)
theorem steepR_no {N : Int} {l : List Pip} {fs : List Int} (h : goodNet N l = false ∨ goodFl l.length fs = false ∨ l.length = 0) : steepR N l fs = (0, 0, false) := by
  unfold steepR
  rw [if_neg]
  rintro ⟨h1, h2, h3⟩
  rcases h with h | h | h
  · rw [h1] at h; cases h
  · rw [h2] at h; cases h
  · exact h3 (List.eq_nil_of_length_eq_zero h)

set_option maxRecDepth 100000 in
set_option maxHeartbeats 2000000 in
theorem i_HeaviestPipe (N : Int) (a b : Option Addr) (n c m d : Nat) (l : List Pip) (fs : List Int) (w : World) (h : QAt w a n l) (h' : IntsAt w b m fs) (hn : n ≤ 1048576) (hm : m ≤ 1048576) (x y : Int) (z : Bool) (hR : heavyR N l fs = (x, y, z)) :
    Calls Try.prog 25 #[.agg #[.int .i64 N, .slice a n c], .slice b m d] w fun e w' => e = .returned (.tuple #[.int .i64 x, .int .i64 y, .bool z]) ∧ Below w.heap.size w w' := by
  have hl := h.1
  have H := hid h
  have H' := hid h'
  clear h h'
  by_cases h12 : (goodNet N l && goodFl n fs) = true
  · have HF := hid h12
    have h2 := ((Bool.and_eq_true _ _).mp h12)
    have hmn : m = n := by have := (goodFl_iff.1 h2.2).1; have := H'.out.1; omega
    subst hmn
    by_cases h3 : m = 0
    · rw [heavyR_no (.inr (.inr (by omega)))] at hR
      cases hR
      have hm0 : ¬ 0 < m := by omega
      clear h12 h2 hl
      subst h3
      go_enter Try.func25, Try.ntmps25
      go_wp2_with fail
      refine (i_isFlowing N _ _ _ _ _ _ l fs _ (H.out.below (by go_grown)) (H'.out.below (by go_grown)) (by omega) (by omega)).mono ?_
      rintro e w1 ⟨rfl, hb1⟩
      rw [HF.out]
      obtain ⟨hc_w1, hf_w1⟩ := bcell hb1
      have hz_w1_0 : w.heap.size < w1.heap.size := by have := hb1.size; simp only [World.size_alloc] at this; omega
      go_wp2
      go_ret3
      exact ⟨rfl, bstep (by go_grown) hb1⟩
    · have HG := hid h2.1
      have HS := hid h2.2
      have HB8 := hid (goodFl_iff.1 h2.2).2
      have e0 : heavyR N l fs = ((gp l (fun k => max (fs[k]?.getD 0) (-(fs[k]?.getD 0))) m).1, (gp l (fun k => max (fs[k]?.getD 0) (-(fs[k]?.getD 0))) m).2, true) := by
        unfold heavyR
        rw [if_pos ⟨h2.1, by rw [hl]; exact h2.2, fun e => h3 (by rw [e] at hl; exact hl.symm)⟩, hl]
      rw [e0] at hR
      cases hR
      have hm0 : 0 < m := by omega
      clear h12 h2 hl e0 h3
      go_enter Try.func25, Try.ntmps25
      go_wp2_with fail
      refine (i_isFlowing N _ _ _ _ _ _ l fs _ (H.out.below (by go_grown)) (H'.out.below (by go_grown)) (by omega) (by omega)).mono ?_
      rintro e w1 ⟨rfl, hb1⟩
      rw [HF.out]
      have hz := hb1.size
      simp only [World.size_alloc] at hz
      have hz0 : w.heap.size < w1.heap.size := by omega
      have hz1 : w.heap.size + 1 < w1.heap.size := by omega
      have HB1 := hid (bstep (by go_grown) hb1 : Below w.heap.size w w1)
      have T0 := (hb1.block w.heap.size (by simp <;> omega)).trans (mid_new w _ _ _ rfl)
      have T1 := (hb1.block (w.heap.size + 1) (by simp)).trans (last_newG (w.alloc _) _ _ (by simp))
      have n0 : w1.cell? ⟨w.heap.size, 0, none⟩ = some (.int .i64 N) := by rw [cell_of_row w1 _ _ _ _ (0, 0) T0]; rfl
      have n1 : w1.cell? ⟨w.heap.size, 1, none⟩ = some (.slice a m c) := by rw [cell_of_row w1 _ _ _ _ (0, 0) T0]; rfl
      have f0 : w1.cell? ⟨w.heap.size + 1, 0, none⟩ = some (.slice b m d) := by rw [cell_of_row w1 _ _ _ _ (0, 0) T1]; rfl
      have N0 := hid n0
      have N1 := hid n1
      have F0 := hid f0
      clear T0 T1 hb1 hz
      go_wp2_with fail
      refine (i_greatestPipe 65 (#[.pointer (some ⟨w.heap.size + 1, 0, none⟩)]) (fun k => fs[k]?.getD 0) enters_HeaviestPipe N _ m _ l _ (H.out.below HB1.out) (by omega) (fun k hk => by have := HB8.out _ (getD_mem' (l := fs) (k := k) (by have := H'.out.1; omega)); omega) (fun k w' hk hb => i_HeaviestPipe1 b m d (w.heap.size + 1) k fs w' ((H'.out.below HB1.out).below hb) hk ((hb.cell hz1).trans F0.out))).mono ?_
      rintro e w2 ⟨rfl, hb2⟩
      go_wp2
      go_ret3
      exact ⟨rfl, bstep HB1.out hb2⟩
  · have HF := hid (show (goodNet N l && goodFl n fs) = false by simpa using h12)
    have e0 : heavyR N l fs = (0, 0, false) := by
      apply heavyR_no
      cases h1 : goodNet N l
      · exact .inl rfl
      · have := HF.out; rw [h1] at this; rw [hl]; exact .inr (.inl this)
    rw [e0] at hR
    cases hR
    clear h12 hl e0
    go_enter Try.func25, Try.ntmps25
    go_wp2_with fail
    refine (i_isFlowing N _ _ _ _ _ _ l fs _ (H.out.below (by go_grown)) (H'.out.below (by go_grown)) (by omega) (by omega)).mono ?_
    rintro e w1 ⟨rfl, hb1⟩
    rw [HF.out]
    go_wp2
    go_ret3
    exact ⟨rfl, bstep (by go_grown) hb1⟩
set_option maxRecDepth 100000 in
set_option maxHeartbeats 2000000 in
theorem i_SteepestPipe (N : Int) (a b : Option Addr) (n c m d : Nat) (l : List Pip) (fs : List Int) (w : World) (h : QAt w a n l) (h' : IntsAt w b m fs) (hn : n ≤ 1048576) (hm : m ≤ 1048576) (x y : Int) (z : Bool) (hR : steepR N l fs = (x, y, z)) :
    Calls Try.prog 29 #[.agg #[.int .i64 N, .slice a n c], .slice b m d] w fun e w' => e = .returned (.tuple #[.int .i64 x, .int .i64 y, .bool z]) ∧ Below w.heap.size w w' := by
  have hl := h.1
  have H := hid h
  have H' := hid h'
  clear h h'
  by_cases h12 : (goodNet N l && goodFl n fs) = true
  · have HF := hid h12
    have h2 := ((Bool.and_eq_true _ _).mp h12)
    have hmn : m = n := by have := (goodFl_iff.1 h2.2).1; have := H'.out.1; omega
    subst hmn
    by_cases h3 : m = 0
    · rw [steepR_no (.inr (.inr (by omega)))] at hR
      cases hR
      have hm0 : ¬ 0 < m := by omega
      clear h12 h2 hl
      subst h3
      go_enter Try.func29, Try.ntmps29
      go_wp2_with fail
      refine (i_isFlowing N _ _ _ _ _ _ l fs _ (H.out.below (by go_grown)) (H'.out.below (by go_grown)) (by omega) (by omega)).mono ?_
      rintro e w1 ⟨rfl, hb1⟩
      rw [HF.out]
      obtain ⟨hc_w1, hf_w1⟩ := bcell hb1
      have hz_w1_0 : w.heap.size < w1.heap.size := by have := hb1.size; simp only [World.size_alloc] at this; omega
      go_wp2
      go_ret3
      exact ⟨rfl, bstep (by go_grown) hb1⟩
    · have HG := hid h2.1
      have HS := hid h2.2
      have HB8 := hid (goodFl_iff.1 h2.2).2
      have e0 : steepR N l fs = ((gp l (fun k => max (loss l fs k) (-(loss l fs k))) m).1, (gp l (fun k => max (loss l fs k) (-(loss l fs k))) m).2, true) := by
        unfold steepR
        rw [if_pos ⟨h2.1, by rw [hl]; exact h2.2, fun e => h3 (by rw [e] at hl; exact hl.symm)⟩, hl]
      rw [e0] at hR
      cases hR
      have hm0 : 0 < m := by omega
      clear h12 h2 hl e0 h3
      go_enter Try.func29, Try.ntmps29
      go_wp2_with fail
      refine (i_isFlowing N _ _ _ _ _ _ l fs _ (H.out.below (by go_grown)) (H'.out.below (by go_grown)) (by omega) (by omega)).mono ?_
      rintro e w1 ⟨rfl, hb1⟩
      rw [HF.out]
      have hz := hb1.size
      simp only [World.size_alloc] at hz
      have hz0 : w.heap.size < w1.heap.size := by omega
      have hz1 : w.heap.size + 1 < w1.heap.size := by omega
      have HB1 := hid (bstep (by go_grown) hb1 : Below w.heap.size w w1)
      have T0 := (hb1.block w.heap.size (by simp <;> omega)).trans (mid_new w _ _ _ rfl)
      have T1 := (hb1.block (w.heap.size + 1) (by simp)).trans (last_newG (w.alloc _) _ _ (by simp))
      have n0 : w1.cell? ⟨w.heap.size, 0, none⟩ = some (.int .i64 N) := by rw [cell_of_row w1 _ _ _ _ (0, 0) T0]; rfl
      have n1 : w1.cell? ⟨w.heap.size, 1, none⟩ = some (.slice a m c) := by rw [cell_of_row w1 _ _ _ _ (0, 0) T0]; rfl
      have f0 : w1.cell? ⟨w.heap.size + 1, 0, none⟩ = some (.slice b m d) := by rw [cell_of_row w1 _ _ _ _ (0, 0) T1]; rfl
      have N0 := hid n0
      have N1 := hid n1
      have F0 := hid f0
      clear T0 T1 hb1 hz
      go_wp2_with fail
      refine (i_greatestPipe 72 (#[.pointer (some ⟨w.heap.size, 0, none⟩), .pointer (some ⟨w.heap.size + 1, 0, none⟩)]) (fun k => loss l fs k) enters_SteepestPipe N _ m _ l _ (H.out.below HB1.out) (by omega) (fun k hk => by have := HB8.out _ (getD_mem' (l := fs) (k := k) (by have := H'.out.1; omega)); have h2 := (goodNet_pipe HG.out (k := k) (by have := H.out.1; omega)).2.2.2.2; have := (loss_fit h2 this).2; unfold loss; omega) (fun k w' hk hb => i_SteepestPipe1 N a b m c d w.heap.size (w.heap.size + 1) k l fs w' ((H.out.below HB1.out).below hb) ((H'.out.below HB1.out).below hb) HG.out HS.out hk ((hb.cell hz0).trans N0.out) ((hb.cell hz0).trans N1.out) ((hb.cell hz1).trans F0.out))).mono ?_
      rintro e w2 ⟨rfl, hb2⟩
      go_wp2
      go_ret3
      exact ⟨rfl, bstep HB1.out hb2⟩
  · have HF := hid (show (goodNet N l && goodFl n fs) = false by simpa using h12)
    have e0 : steepR N l fs = (0, 0, false) := by
      apply steepR_no
      cases h1 : goodNet N l
      · exact .inl rfl
      · have := HF.out; rw [h1] at this; rw [hl]; exact .inr (.inl this)
    rw [e0] at hR
    cases hR
    clear h12 hl e0
    go_enter Try.func29, Try.ntmps29
    go_wp2_with fail
    refine (i_isFlowing N _ _ _ _ _ _ l fs _ (H.out.below (by go_grown)) (H'.out.below (by go_grown)) (by omega) (by omega)).mono ?_
    rintro e w1 ⟨rfl, hb1⟩
    rw [HF.out]
    go_wp2
    go_ret3
    exact ⟨rfl, bstep (by go_grown) hb1⟩

end Go.Proofs.Ytheaagbffphdmaa
