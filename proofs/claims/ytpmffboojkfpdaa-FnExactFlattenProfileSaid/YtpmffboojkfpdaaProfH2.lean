/-
  Profiles: a shifted profile, in the reference.
-/
import Derived.Test.YtpmffboojkfpdaaProfH
set_option linter.unusedVariables false
set_option linter.unusedSimpArgs false
namespace Go.Proofs.Ytpmffboojkfpdaa
open Go.RowKit

set_option maxRecDepth 100000 in
set_option maxHeartbeats 4000000 in
theorem s_ShiftProfile_yes (a : Option Addr) (n c h : Nat) (l : List Int) (w : World) (hA : IntsAt w a n l) (h1 : goodProf l = true) (h2 : inR (h : Int) 0 23 = true) :
    Calls Try.prog 14 #[.agg #[.slice a n c], .int .i64 h] w fun e w' => ∃ a' c', e = .returned (.tuple #[.agg #[.slice a' 24 c'], .bool true]) ∧ OwnI w' w.heap.size (.slice a' 24 c') (shiftL l h 24) ∧ Below w.heap.size w w' := by
  obtain ⟨i0, hi, hz0, hz1, hz2⟩ := info_parts Try.infoInt
  have hn : n = 24 := by have := hA.1; have := (goodProf_iff.1 h1).1; omega
  have hh := inR_iff.1 h2
  have H := hid hA
  have HG := hid h1
  have H2 := hid h2
  have HI := hid hi
  have HZ := hid hz0
  have HZ1 := hid hz1
  have HZ2 := hid hz2
  clear hA h1 h2 hi hz0 hz1 hz2
  subst hn
  have hh2 : h ≤ 23 := by omega
  obtain ⟨b, off, rfl, hbw0, -⟩ := H.out.2 0 (by decide)
  go_enter Try.func14, Try.ntmps14
  go_wp2_with fail
  refine (s_l6Good _ _ _ l _ (H.out.below (by go_grown)) (by omega)).mono ?_
  rintro e w1 ⟨rfl, hb1⟩
  rw [HG.out]
  have HB1 := hid (bstep (by go_grown) hb1 : Below w.heap.size w w1)
  have hz := hb1.size
  simp only [World.size_alloc] at hz
  have T1 := hid ((hb1.block (w.heap.size + 1) (by simp)).trans (last_newP (w.alloc _) _ _ (by simp)))
  have T0 := hid ((hb1.block w.heap.size (by simp <;> omega)).trans (mid_new w _ _ _ rfl))
  go_wp2_with fail
  refine (s_l6Hour _ _).mono ?_
  rintro e _ ⟨rfl, rfl⟩
  rw [H2.out]
  clear hb1
  have hz0 : w.heap.size < w1.heap.size := by omega
  go_wp2
  go_loopg [7] 24 (fun g i wr => ∃ (k : Nat) (a' : Option Addr) (c' : Nat), k ≤ 24 ∧ g = 24 - k ∧ i = .int .i64 k ∧ Hid (OwnI wr (w1.heap.size + 1) (.slice a' k c') (shiftL l h k) ∧ Below w.heap.size w wr) ∧ Hid (wr.heap[w1.heap.size]? = some (.cells #[.slice a' k c'] 26 (0, 0)) ∧ wr.heap[w.heap.size + 1]? = some (.cells #[.slice none 0 0] 26 (0, 0)) ∧ wr.heap[w.heap.size]? = some (.cells #[.slice (some ⟨b, off, none⟩) 24 c] 26 (0, 0))))
  case atStart =>
    refine ⟨0, none, 0, Nat.zero_le _, rfl, rfl, hid ⟨World.ownsRow_nil _ _ _ _, HB1.out.alloc HB1.out.size _⟩, hid ⟨heap_alloc_new _ _, ?_, ?_⟩⟩
    · rw [Below.heap_alloc _ _ _ (by omega)]; exact T1.out
    · rw [Below.heap_alloc _ _ _ (by omega)]; exact T0.out
  case round =>
    obtain ⟨k, a', c', hk, rfl, rfl, hh3, hbx⟩ := hrel
    have s1 := HB1.out.size
    have zb := (Array.getElem?_eq_some_iff.1 hbx.out.1).1
    have zr := (Array.getElem?_eq_some_iff.1 hbx.out.2.1).1
    by_cases hlt : k < 24
    · have hm : (k + 24 - h) % 24 < 24 := Nat.mod_lt _ (by decide)
      obtain ⟨_, _, e0, hbw, hcell⟩ := (H.out.below hh3.out.2).2 ((k + 24 - h) % 24) hm
      cases e0
      have x6 : wr.cell? ⟨w1.heap.size, 0, none⟩ = some (.slice a' k c') := by rw [cell_of_row wr _ _ _ _ (0, 0) hbx.out.1]; rfl
      have x2 : wr.cell? ⟨w.heap.size, 0, none⟩ = some (.slice (some ⟨b, off, none⟩) 24 c) := by rw [cell_of_row wr _ _ _ _ (0, 0) hbx.out.2.2]; rfl
      have f6 := frozen_of_row wr _ 0 _ _ hbx.out.1
      have hlk := hid (shiftL_len l h k)
      have hne := hid (show Value.ownBlock (.slice a' k c') ≠ some w1.heap.size from fun e => by have := (hh3.out.1.lt _ e).1; omega)
      have hw1 : IntKind.i64.wrap ((k : Int) + 24) = (k : Int) + 24 := IntWalk.i64_in _ (by omega)
      have hw2 : IntKind.i64.wrap ((k : Int) + 24 - (h : Int)) = (k : Int) + 24 - (h : Int) := IntWalk.i64_in _ (by omega)
      have e1 : ((k : Int) + 24 - (h : Int)).tmod 24 = (((k + 24 - h) % 24 : Nat) : Int) := by rw [Int.tmod_eq_emod_of_nonneg (by omega)]; omega
      have e3 : (0 : Int) ≤ ((k + 24 - h : Nat) : Int) % 24 := by omega
      have e4 : ((k + 24 - h : Nat) : Int) % 24 < 24 := by omega
      have e5 : (((k + 24 - h : Nat) : Int) % 24).toNat = (k + 24 - h) % 24 := by omega
      go_upto_region 7 with fail
      go_region_law (refine step_append_lies _ (by rfl) _ _ _ (by rfl) (w1.heap.size + 1) 3 i0 _ 1 8 Try.underlying22 HI.out HZ.out HZ1.out HZ2.out rfl (by omega) _ k _ (by rfl) (by have := (hh3.out.1.alloc (.cells #[.int .i64 (l[(k + 24 - h) % 24]?.getD 0)] 3)).drew; unfold OwnI at this; rw [hlk.out] at this; exact this) ⟨wr.heap.size, 0, none⟩ 1 1 [.int .i64 (l[(k + 24 - h) % 24]?.getD 0)] (by rfl) (by rfl) (World.news_of_block (cs := #[.int .i64 (l[(k + 24 - h) % 24]?.getD 0)]) (t := 3) (fr := (0, 0)) (heap_alloc_new wr _)) (by simp [Value.oneCell']) (by omega) (by unfold maxLen; omega) (by omega) (by simp; omega) (wr.heap.size + 1) (by simp) ?_; intro gg cap w2 hown hgrow hblk hlt2; have y6 := (hgrow.cell_far ⟨w1.heap.size, 0, none⟩ (by simp; omega) (Ne.symm hne.out)); have g6 := (hgrow.frozen_far ⟨w1.heap.size, 0, none⟩ (by simp; omega) (Ne.symm hne.out)))
      all_goals
        have hgr : ((wr.alloc (.cells #[.int .i64 (l[(k + 24 - h) % 24]?.getD 0)] 3)).drew).grownBy w2 (Value.ownBlock (.slice a' k c')) := hgrow
        have HO : OwnI w2 (w1.heap.size + 1) (.slice (some ⟨gg, 0, none⟩) (k + 1) cap) (shiftL l h (k + 1)) := by
          unfold OwnI
          rw [shiftL_succ, List.map_append, List.length_append, hlk.out]
          exact hown
        have hlt9 : ∀ q, Value.ownBlock (.slice a' k c') = some q → w1.heap.size + 1 ≤ q := fun q hq => (hh3.out.1.lt q hq).1
        have R1 : w2.heap[w1.heap.size]? = some (.cells #[.slice a' k c'] 26 (0, 0)) := (hgr.block _ (by simp; omega) (fun e => by have := hlt9 _ e.symm; omega)).trans ((Below.heap_alloc _ _ _ (by omega)).trans hbx.out.1)
        have R2 : w2.heap[w.heap.size + 1]? = some (.cells #[.slice none 0 0] 26 (0, 0)) := (hgr.block _ (by simp; omega) (fun e => by have := hlt9 _ e.symm; omega)).trans ((Below.heap_alloc _ _ _ (by omega)).trans hbx.out.2.1)
        have R3 : w2.heap[w.heap.size]? = some (.cells #[.slice (some ⟨b, off, none⟩) 24 c] 26 (0, 0)) := (hgr.block _ (by simp; omega) (fun e => by have := hlt9 _ e.symm; omega)).trans ((Below.heap_alloc _ _ _ (by omega)).trans hbx.out.2.2)
        have HB : Hid (Below w.heap.size w (w2.setCell ⟨w1.heap.size, 0, none⟩ (.slice (some ⟨gg, 0, none⟩) (k + 1) cap))) := hid (((bstep hh3.out.2 (by go_grown : Below wr.heap.size wr ((wr.alloc (.cells #[.int .i64 (l[(k + 24 - h) % 24]?.getD 0)] 3)).drew))).grown hgr (by have := hh3.out.2.size; simp; omega) (fun q hq => by have := hlt9 _ hq; omega)).setCell (by show _ ≤ w1.heap.size; omega) _)
        have HOO := hid (HO.far (b := w1.heap.size) (o := 0) (u := .slice (some ⟨gg, 0, none⟩) (k + 1) cap) (by omega))
        have RR1 := heap_setCell_same w2 _ 0 _ _ (.slice (some ⟨gg, 0, none⟩) (k + 1) cap) R1
        simp only [List.setIfInBounds_toArray, List.set_cons_zero] at RR1
        have RR := hid (And.intro RR1 (And.intro (other_cell (b := w1.heap.size) (o := 0) (u := .slice (some ⟨gg, 0, none⟩) (k + 1) cap) R2 (by omega)) (other_cell (b := w1.heap.size) (o := 0) (u := .slice (some ⟨gg, 0, none⟩) (k + 1) cap) R3 (by omega))))
        clear hown hgrow hblk hgr HO R1 R2 R3 RR1 y6 g6 x6 x2 f6 hw1 hw2 e1 e3 e4 e5 hcell
        go_wp2
        go_roundg (24 - (k + 1))
        case rel => exact ⟨k + 1, _, _, by omega, rfl, by go_num, hid ⟨HOO.out, HB.out⟩, RR⟩
        case measure => omega
    · obtain rfl : k = 24 := by omega
      have x0 : wr.cell? ⟨w1.heap.size, 0, none⟩ = some (.slice a' 24 c') := by rw [cell_of_row wr _ _ _ _ (0, 0) hbx.out.1]; rfl
      have n0 : wr.cell? ⟨w.heap.size + 1, 0, none⟩ = some (.slice none 0 0) := by rw [cell_of_row wr _ _ _ _ (0, 0) hbx.out.2.1]; rfl
      have f0 := frozen_of_row wr _ 0 _ _ hbx.out.2.1
      go_wp2
      have e7 := heap_setCell_same _ _ 0 _ _ (.slice a' 24 c') hbx.out.2.1
      have u0 := cell_of_row _ _ 0 _ _ (0, 0) e7
      simp only [List.setIfInBounds_toArray, List.set_cons_zero, List.getElem?_toArray, List.getElem?_cons_zero] at u0
      refine bodyPost_ret (v := .tuple #[.agg #[.slice a' 24 c'], .bool true]) (by simp [results, Try.results14, go_sem, *]) rfl ⟨_, _, rfl, ?_, ?_⟩
      · exact (hh3.out.1.far (by omega)).mono (by omega)
      · exact hh3.out.2.setCell (by show _ ≤ w.heap.size + 1; omega) _

end Go.Proofs.Ytpmffboojkfpdaa
