/-
  FlattenProfile in the program.
-/
import Derived.Test.YtpmffboojkfpdaaProfJ
set_option linter.unusedVariables false
set_option linter.unusedSimpArgs false
namespace Go.Proofs.Ytpmffboojkfpdaa
open Go.RowKit

theorem pk_max {L : List Int} {r : Int} (hl : L.length = 24) (h1 : r ∈ L) (h2 : ∀ x ∈ L, x ≤ r) : r = el L (pkTo L 24) := by
  have hp := pkTo_lt L 24 (by omega)
  obtain ⟨j, hj, rfl⟩ := mem_el h1
  have a := pkTo_max L 24 j (by omega)
  have b := h2 _ (getD_mem' (l := L) (k := pkTo L 24) (by omega))
  simp only [el] at a b ⊢
  omega
theorem lw_min {L : List Int} {r : Int} (hl : L.length = 24) (h1 : r ∈ L) (h2 : ∀ x ∈ L, r ≤ x) : r = el L (lwTo L 24) := by
  have hp := lwTo_lt L 24 (by omega)
  obtain ⟨j, hj, rfl⟩ := mem_el h1
  have a := lwTo_min L 24 j (by omega)
  have b := h2 _ (getD_mem' (l := L) (k := lwTo L 24) (by omega))
  simp only [el] at a b ⊢
  omega

set_option maxRecDepth 100000 in
set_option maxHeartbeats 4000000 in
theorem i_FlattenProfile_yes (a : Option Addr) (n c : Nat) (most : Int) (l : List Int) (w : World) (hA : IntsAt w a n l) (h1 : goodProf l = true) (h2 : inR most 100 1000 = true) :
    Calls Try.prog 27 #[.agg #[.slice a n c], .int .i64 most] w fun e w' => ∃ a' c', e = .returned (.tuple #[.agg #[.slice a' 24 c'], .bool true]) ∧ OwnI w' w.heap.size (.slice a' 24 c') (fin most l) ∧ Below w.heap.size w w' := by
  have hn : n = 24 := by have := hA.1; have := (goodProf_iff.1 h1).1; omega
  have hm := inR_iff.1 h2
  have H := hid hA
  have HG := hid h1
  have H2 := hid h2
  clear hA h1 h2
  subst hn
  go_enter Try.func27, Try.ntmps27
  go_wp2_with fail
  refine (i_IsValidProfile _ _ _ l _ (H.out.below (by go_grown)) (by omega)).mono ?_
  rintro e w1 ⟨rfl, hb1⟩
  rw [HG.out]
  have HB1 := hid (bstep (by go_grown) hb1 : Below w.heap.size w w1)
  have hz := hb1.size
  simp only [World.size_alloc] at hz
  have T1 := hid ((hb1.block (w.heap.size + 1) (by simp)).trans (last_newP (w.alloc _) _ _ (by simp)))
  have hz1 : w.heap.size + 1 < w1.heap.size := by omega
  have n0 : w1.cell? ⟨w.heap.size + 1, 0, none⟩ = some (.slice none 0 0) := by rw [cell_of_row w1 _ _ _ _ (0, 0) T1.out]; rfl
  have f0 := frozen_of_row w1 _ 0 _ _ T1.out
  have hb0 := (hb1.block w.heap.size (by simp <;> omega)).trans (mid_new w _ _ _ rfl)
  clear hb1
  have T0 := hid (hb0 : w1.heap[w.heap.size]? = some (.cells #[.slice a 24 c] 26 (0, 0)))
  have m0 : w1.cell? ⟨w.heap.size, 0, none⟩ = some (.slice a 24 c) := by rw [cell_of_row w1 _ _ _ _ (0, 0) T0.out]; rfl
  have hz0 : w.heap.size < w1.heap.size := by omega
  go_wp2_with fail
  refine (i_inside _ _ _ _).mono ?_
  rintro e _ ⟨rfl, rfl⟩
  rw [H2.out]
  clear n0 f0 hb0
  go_wp2_with fail
  refine (i_copyInts _ _ _ l _ (H.out.below HB1.out) (by omega)).mono ?_
  rintro e w2 ⟨a2, c2, rfl, ho, hb2⟩
  obtain ⟨g, rfl, hg1, hg2⟩ := own_some ho (by decide)
  have HO := hid ho
  have HB2 := hid (bstep HB1.out hb2)
  have T2 := hid ((hb2.block (w.heap.size + 1) hz1).trans T1.out)
  clear ho hb2 m0
  go_wp2
  go_loopg [] (exc most l).toNat (fun gh wr => ∃ L : List Int, gh = (exc most L).toNat ∧ Hid (OwnI wr w1.heap.size (.slice (some ⟨g, 0, none⟩) 24 c2) L ∧ goodProf L = true ∧ fin most L = fin most l ∧ Below w.heap.size w wr) ∧ Hid (wr.heap[w.heap.size + 1]? = some (.cells #[.slice none 0 0] 26 (0, 0))))
  case atStart => exact ⟨l, rfl, hid ⟨HO.out, HG.out, rfl, HB2.out⟩, T2⟩
  case round =>
    obtain ⟨L, rfl, hh, hT⟩ := hrel
    have hL := (goodProf_iff.1 hh.out.2.1).1
    have hpl := pkTo_lt L 24 (by omega)
    have htl := lwTo_lt L 24 (by omega)
    have hb : ∀ j, j < 24 → 0 ≤ el L j ∧ el L j ≤ 1000 := fun j hj => (goodProf_iff.1 hh.out.2.1).2.1 _ (getD_mem' (by omega))
    have hbp := hb _ hpl
    have hbt := hb _ htl
    clear hb
    go_wp2_with fail
    refine (f_Max _ _ _ L _ hh.out.1.at (by omega) (by omega)).mono ?_
    rintro e _ ⟨⟨r, rfl, r1, r2⟩, rfl⟩
    obtain rfl := pk_max hL r1 r2
    clear r1 r2
    by_cases hgt : most < el L (pkTo L 24)
    · have hlow := low_small hh.out.2.1 (by omega)
      have hne : pkTo L 24 ≠ lwTo L 24 := fun e => by rw [e] at hgt; omega
      have SG := hid (stepF_good hh.out.2.1 hm.1 hgt)
      have SF := hid (fin_step hh.out.2.1 hm.1 hgt)
      have hcp := hh.out.1.cell (k := pkTo L 24) hpl
      have hct := hh.out.1.cell (k := lwTo L 24) htl
      have hfp := hh.out.1.frozen (k := pkTo L 24)
      have hft := hh.out.1.frozen (k := lwTo L 24)
      have hex := exc_pos most (stepF L)
      have hex2 := SG.out.2
      go_wp2_with fail
      refine (f_Max _ _ _ L _ hh.out.1.at (by omega) (by omega)).mono ?_
      rintro e _ ⟨⟨r, rfl, r1, r2⟩, rfl⟩
      obtain rfl := pk_max hL r1 r2
      clear r1 r2
      go_wp2_with fail
      refine (f_Index _ _ _ (pkTo L 24) _ L _ hh.out.1.at (by omega) hpl rfl (fun j hj => by have := pkTo_first L 24 j hj; omega)).mono ?_
      rintro e _ ⟨rfl, rfl⟩
      go_wp2_with fail
      refine (f_Min _ _ _ L _ hh.out.1.at (by omega) (by omega)).mono ?_
      rintro e _ ⟨⟨r, rfl, r1, r2⟩, rfl⟩
      obtain rfl := lw_min hL r1 r2
      clear r1 r2
      go_wp2_with fail
      refine (f_Index _ _ _ (lwTo L 24) _ L _ hh.out.1.at (by omega) htl rfl (fun j hj => by have := lwTo_first L 24 j hj; omega)).mono ?_
      rintro e _ ⟨rfl, rfl⟩
      have hne2 : ¬ lwTo L 24 = pkTo L 24 := fun e => hne e.symm
      clear hL
      have hbp' : 0 ≤ L[pkTo L 24]?.getD 0 ∧ L[pkTo L 24]?.getD 0 ≤ 1000 := hbp
      have hbt' : 0 ≤ L[lwTo L 24]?.getD 0 ∧ L[lwTo L 24]?.getD 0 ≤ 1000 := hbt
      go_wp2
      go_roundg (exc most (stepF L)).toNat
      case rel =>
        obtain ⟨o1, o2⟩ := own_step hh.out.1 hne
        exact ⟨stepF L, rfl, hid ⟨o1, SG.out.1, SF.out.symm.trans hh.out.2.2.1, hh.out.2.2.2.grown o2 hh.out.2.2.2.size (fun q hq => by have := HB1.out.size; simp only [Option.some.injEq] at hq; omega)⟩, hid (other_cell (other_cell hT.out (by omega)) (by omega))⟩
      case measure => omega
    · have FD := hid (fin_done hgt)
      have hz9 : w.heap.size + 1 < wr.heap.size := (Array.getElem?_eq_some_iff.1 hT.out).1
      have n0 : wr.cell? ⟨w.heap.size + 1, 0, none⟩ = some (.slice none 0 0) := by rw [cell_of_row wr _ _ _ _ (0, 0) hT.out]; rfl
      have f0 := frozen_of_row wr _ 0 _ _ hT.out
      go_wp2
      have e7 := heap_setCell_same _ _ 0 _ _ (.slice (some ⟨g, 0, none⟩) 24 c2) hT.out
      have u0 := cell_of_row _ _ 0 _ _ (0, 0) e7
      simp only [List.setIfInBounds_toArray, List.set_cons_zero, List.getElem?_toArray, List.getElem?_cons_zero] at u0
      refine bodyPost_ret (v := .tuple #[.agg #[.slice (some ⟨g, 0, none⟩) 24 c2], .bool true]) (by simp [results, Try.results27, go_sem, *]) rfl ⟨_, _, rfl, ?_, ?_⟩
      · have e : fin most l = L := hh.out.2.2.1.symm.trans FD.out
        rw [e]
        exact (hh.out.1.far (by have := HB1.out.size; omega)).mono HB1.out.size
      · exact hh.out.2.2.2.setCell (by show _ ≤ w.heap.size + 1; omega) _

end Go.Proofs.Ytpmffboojkfpdaa
