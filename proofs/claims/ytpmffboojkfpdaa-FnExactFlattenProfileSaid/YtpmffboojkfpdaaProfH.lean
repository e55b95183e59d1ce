/-
  Profiles: a shifted profile.
-/
import Derived.Test.YtpmffboojkfpdaaProfA
import Derived.Test.YtpmffboojkfpdaaProfC
import Derived.Deep.RegionHeld3
import Derived.Deep.AppendLies
import Derived.Deep.RegionLaw
set_option linter.unusedVariables false
set_option linter.unusedSimpArgs false
namespace Go.Proofs.Ytpmffboojkfpdaa
open Go.RowKit

theorem last_newP (W : World) (x : Obj) (g : Nat) (hg : g = W.heap.size) : (W.alloc x).heap[g]? = some x := by
  subst hg
  exact heap_alloc_new _ _
/-- The shifted percentages. -/
def shiftL (l : List Int) (h k : Nat) : List Int := (List.range k).map fun i => l[(i + 24 - h) % 24]?.getD 0
theorem shiftL_len (l : List Int) (h k : Nat) : (shiftL l h k).length = k := by simp [shiftL]
theorem shiftL_succ (l : List Int) (h k : Nat) : shiftL l h (k + 1) = shiftL l h k ++ [l[(k + 24 - h) % 24]?.getD 0] := by simp [shiftL, List.range_succ]
theorem shift_is {l L : List Int} {h : Nat} (hh : h ≤ 23) (hL : L.length = 24) (hall : ∀ j, j < 24 → L[(j + h) % 24]?.getD 0 = l[j]?.getD 0) : L = shiftL l h 24 := by
  apply List.ext_getElem?
  intro i
  by_cases hi : i < 24
  · have := hall ((i + 24 - h) % 24) (Nat.mod_lt _ (by decide))
    have e : ((i + 24 - h) % 24 + h) % 24 = i := by omega
    rw [e] at this
    rw [List.getElem?_eq_getElem (by omega)] at this ⊢
    simp only [Option.getD_some] at this
    rw [this]
    simp [shiftL, hi]
  · rw [List.getElem?_eq_none (by omega), List.getElem?_eq_none (by rw [shiftL_len]; omega)]

set_option maxRecDepth 100000 in
set_option maxHeartbeats 2000000 in
theorem i_ShiftProfile_yes (a : Option Addr) (n c h : Nat) (l : List Int) (w : World) (hA : IntsAt w a n l) (h1 : goodProf l = true) (h2 : inR (h : Int) 0 23 = true) :
    Calls Try.prog 16 #[.agg #[.slice a n c], .int .i64 h] w fun e w' => ∃ a' c', e = .returned (.tuple #[.agg #[.slice a' 24 c'], .bool true]) ∧ OwnI w' w.heap.size (.slice a' 24 c') (shiftL l h 24) ∧ Below w.heap.size w w' := by
  obtain ⟨i0, hi, hz0, hz1, hz2⟩ := info_parts Try.infoInt
  have hn : n = 24 := by have := hA.1; have := (goodProf_iff.1 h1).1; omega
  have hh := inR_iff.1 h2
  have H := hid hA
  have HG := hid h1
  have H2 := hid h2
  have HI := hid hi
  have HZ := hid hz0
  have HZ1 := hid hz1
  have HZ2 := hid hz2
  clear hA h1 h2 hi hz0 hz1 hz2
  subst hn
  have hh2 : h ≤ 23 := by omega
  go_enter Try.func16, Try.ntmps16
  go_wp2_with fail
  refine (i_IsValidProfile _ _ _ l _ (H.out.below (by go_grown)) (by omega)).mono ?_
  rintro e w1 ⟨rfl, hb1⟩
  rw [HG.out]
  have HB1 := hid (bstep (by go_grown) hb1 : Below w.heap.size w w1)
  have hz := hb1.size
  simp only [World.size_alloc] at hz
  have T1 := hid ((hb1.block (w.heap.size + 1) (by simp)).trans (last_newP (w.alloc _) _ _ (by simp)))
  have T0 := hid ((hb1.block w.heap.size (by simp <;> omega)).trans (mid_new w _ _ _ rfl))
  go_wp2_with fail
  refine (i_isHour _ _).mono ?_
  rintro e _ ⟨rfl, rfl⟩
  rw [H2.out]
  clear hb1
  have n0 : w1.cell? ⟨w.heap.size, 0, none⟩ = some (.slice a 24 c) := by rw [cell_of_row w1 _ _ _ _ (0, 0) T0.out]; rfl
  have hz0 : w.heap.size < w1.heap.size := by omega
  go_wp2_with (at_make; refine wpList_make_full _ rfl _ _ 22 rfl w1.heap.size 3 i0 (.int .i64 0) 1 Try.underlying22 HI.out HZ.out HZ1.out _ _ _ _ 24 rfl rfl rfl rfl ?b2 ?b3 ?b4 ?_)
  case b2 => rw [HZ2.out]; omega
  case b3 => unfold maxLen; omega
  case b4 => exact Nat.le_refl _
  intro w2 hown hgrow
  have ho := OwnI.made hown
  have HO := hid ho
  have HB2 := hid (below_of_grown hgrow (Nat.le_refl _) (fun k hk => by simp at hk))
  have n2 := (HB2.out.cell (p := ⟨w.heap.size, 0, none⟩) hz0).trans n0
  have hz2 : w.heap.size < w2.heap.size := by have := HB2.out.size; omega
  clear hown ho hgrow n0
  go_wp2
  go_loopg [23] 24 (fun g i wr => ∃ (k : Nat) (L : List Int), k ≤ 24 ∧ g = 24 - k ∧ i = .int .i64 k ∧ Hid (OwnI wr w1.heap.size (.slice (some ⟨w1.heap.size, 0, none⟩) 24 24) L ∧ L.length = 24 ∧ (∀ j, j < k → L[(j + h) % 24]?.getD 0 = l[j]?.getD 0) ∧ Below w.heap.size w wr) ∧ Hid (wr.heap[w2.heap.size]? = some (.cells #[.slice (some ⟨w1.heap.size, 0, none⟩) 24 24] 26 (0, 0)) ∧ wr.heap[w.heap.size + 1]? = some (.cells #[.slice none 0 0] 26 (0, 0))))
  case atStart =>
    refine ⟨0, List.replicate 24 0, Nat.zero_le _, rfl, rfl, hid ⟨HO.out.alloc _, by simp, fun j hj => absurd hj (by omega), (bstep HB1.out HB2.out).alloc (by have := HB1.out.size; have := HB2.out.size; omega) _⟩, hid ⟨heap_alloc_new _ _, ?_⟩⟩
    rw [Below.heap_alloc _ _ _ (by have := HB2.out.size; omega), HB2.out.block _ (by omega)]
    exact T1.out
  case round =>
    obtain ⟨k, L, hk, rfl, rfl, hh3, hbx⟩ := hrel
    have s1 := HB1.out.size
    have s2 := HB2.out.size
    have zb := (Array.getElem?_eq_some_iff.1 hbx.out.1).1
    have zr := (Array.getElem?_eq_some_iff.1 hbx.out.2).1
    have zw : w1.heap.size < w2.heap.size := (HO.out.lt _ rfl).2
    by_cases hlt : k < 24
    · have hm : (k + h) % 24 < 24 := Nat.mod_lt _ (by decide)
      obtain ⟨b, off, rfl, hbw, hcell⟩ := (H.out.below hh3.out.2.2.2).2 k hlt
      have x0 : wr.cell? ⟨w2.heap.size, 0, none⟩ = some (.slice (some ⟨w1.heap.size, 0, none⟩) 24 24) := by rw [cell_of_row wr _ _ _ _ (0, 0) hbx.out.1]; rfl
      have hcell2 := hh3.out.1.cell (k := (k + h) % 24) hm
      have hfr := hh3.out.1.frozen (k := (k + h) % 24)
      have e1 : ((k : Int) + (h : Int)).tmod 24 = (((k + h) % 24 : Nat) : Int) := by rw [Int.tmod_eq_emod_of_nonneg (by omega)]; omega
      have e2 : (((k : Int) + (h : Int)) % 24).toNat = (k + h) % 24 := by omega
      go_wp2
      go_roundg (24 - (k + 1))
      case rel =>
        have hs := hh3.out.1.set (k := (k + h) % 24) (l[k]?.getD 0)
        refine ⟨k + 1, L.set ((k + h) % 24) (l[k]?.getD 0), by omega, rfl, by go_num, hid ⟨hs.1, by rw [List.length_set]; exact hh3.out.2.1, ?_, hh3.out.2.2.2.grown hs.2 hh3.out.2.2.2.size (fun q hq => by simp at hq; omega)⟩, hid ⟨other_cell hbx.out.1 (by omega), other_cell hbx.out.2 (by omega)⟩⟩
        intro j hj
        have hl24 := hh3.out.2.1
        by_cases e : j = k
        · subst e; rw [List.getElem?_set_self (by omega)]; rfl
        · rw [List.getElem?_set_ne (by omega)]; exact hh3.out.2.2.1 j (by omega)
      case measure => omega
    · obtain rfl : k = 24 := by omega
      obtain rfl := shift_is hh2 hh3.out.2.1 hh3.out.2.2.1
      have x0 : wr.cell? ⟨w2.heap.size, 0, none⟩ = some (.slice (some ⟨w1.heap.size, 0, none⟩) 24 24) := by rw [cell_of_row wr _ _ _ _ (0, 0) hbx.out.1]; rfl
      have n0 : wr.cell? ⟨w.heap.size + 1, 0, none⟩ = some (.slice none 0 0) := by rw [cell_of_row wr _ _ _ _ (0, 0) hbx.out.2]; rfl
      have f0 := frozen_of_row wr _ 0 _ _ hbx.out.2
      go_wp2
      have e7 := heap_setCell_same _ _ 0 _ _ (.slice (some ⟨w1.heap.size, 0, none⟩) 24 24) hbx.out.2
      have u0 := cell_of_row _ _ 0 _ _ (0, 0) e7
      simp only [List.setIfInBounds_toArray, List.set_cons_zero, List.getElem?_toArray, List.getElem?_cons_zero] at u0
      refine bodyPost_ret (v := .tuple #[.agg #[.slice (some ⟨w1.heap.size, 0, none⟩) 24 24], .bool true]) (by simp [results, Try.results16, go_sem, *]) rfl ⟨_, _, rfl, ?_, ?_⟩
      · exact (hh3.out.1.far (by omega)).mono (by omega)
      · exact hh3.out.2.2.2.setCell (by show _ ≤ w.heap.size + 1; omega) _

end Go.Proofs.Ytpmffboojkfpdaa
