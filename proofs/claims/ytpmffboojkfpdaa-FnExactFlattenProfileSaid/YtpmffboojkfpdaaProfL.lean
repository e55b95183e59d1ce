/-
  FlattenProfile in the reference.
-/
import Derived.Test.YtpmffboojkfpdaaProfK
set_option linter.unusedVariables false
set_option linter.unusedSimpArgs false
namespace Go.Proofs.Ytpmffboojkfpdaa
open Go.RowKit

set_option maxRecDepth 100000 in
set_option maxHeartbeats 4000000 in
theorem s_FlattenProfile_yes (a : Option Addr) (n c : Nat) (most : Int) (l : List Int) (w : World) (hA : IntsAt w a n l) (h1 : goodProf l = true) (h2 : inR most 100 1000 = true) :
    Calls Try.prog 26 #[.agg #[.slice a n c], .int .i64 most] w fun e w' => ∃ a' c', e = .returned (.tuple #[.agg #[.slice a' 24 c'], .bool true]) ∧ OwnI w' w.heap.size (.slice a' 24 c') (fin most l) ∧ Below w.heap.size w w' := by
  have hn : n = 24 := by have := hA.1; have := (goodProf_iff.1 h1).1; omega
  have hm := inR_iff.1 h2
  have H := hid hA
  have HG := hid h1
  have H2 := hid h2
  clear hA h1 h2
  subst hn
  go_enter Try.func26, Try.ntmps26
  go_wp2_with fail
  refine (s_l6Good _ _ _ l _ (H.out.below (by go_grown)) (by omega)).mono ?_
  rintro e w1 ⟨rfl, hb1⟩
  rw [HG.out]
  have HB1 := hid (bstep (by go_grown) hb1 : Below w.heap.size w w1)
  have hz := hb1.size
  simp only [World.size_alloc] at hz
  have T1 := hid ((hb1.block (w.heap.size + 1) (by simp)).trans (last_newP (w.alloc _) _ _ (by simp)))
  have hz1 : w.heap.size + 1 < w1.heap.size := by omega
  have n0 : w1.cell? ⟨w.heap.size + 1, 0, none⟩ = some (.slice none 0 0) := by rw [cell_of_row w1 _ _ _ _ (0, 0) T1.out]; rfl
  have f0 := frozen_of_row w1 _ 0 _ _ T1.out
  have hb0 := (hb1.block w.heap.size (by simp <;> omega)).trans (mid_new w _ _ _ rfl)
  clear hb1
  have T0 := hid (hb0 : w1.heap[w.heap.size]? = some (.cells #[.slice a 24 c] 26 (0, 0)))
  have m0 : w1.cell? ⟨w.heap.size, 0, none⟩ = some (.slice a 24 c) := by rw [cell_of_row w1 _ _ _ _ (0, 0) T0.out]; rfl
  have hz0 : w.heap.size < w1.heap.size := by omega
  go_wp2_with fail
  refine (s_l1In _ _ _ _).mono ?_
  rintro e _ ⟨rfl, rfl⟩
  rw [H2.out]
  clear n0 f0 hb0
  go_wp2_with fail
  refine (s_l1Own _ _ _ l _ (H.out.below HB1.out) (by omega)).mono ?_
  rintro e w2 ⟨a2, c2, rfl, ho, hb2⟩
  obtain ⟨g, rfl, hg1, hg2⟩ := own_some ho (by decide)
  have T2 := hid ((hb2.block (w.heap.size + 1) hz1).trans T1.out)
  have HO2 := hid ho
  have HB2 := hid (bstep HB1.out hb2)
  have hz2 := hb2.size
  clear ho hb2 m0
  go_wp2_with fail
  refine (s_l6Peak _ _ _ l _ HO2.out.at (by omega) (by omega)).mono ?_
  rintro e w3 ⟨rfl, hb3⟩
  have HO := hid (HO2.out.below hb3)
  have HB3 := hid (bstep HB2.out hb3)
  have T3 := hid ((hb3.block (w.heap.size + 1) (by omega)).trans T2.out)
  clear hb3
  go_wp2
  go_loopg [7] (exc most l).toNat (fun gh s wr => ∃ L : List Int, gh = (exc most L).toNat ∧ s = .int .i64 (pkTo L 24) ∧ Hid (OwnI wr w1.heap.size (.slice (some ⟨g, 0, none⟩) 24 c2) L ∧ goodProf L = true ∧ fin most L = fin most l ∧ Below w.heap.size w wr) ∧ Hid (wr.heap[w.heap.size + 1]? = some (.cells #[.slice none 0 0] 26 (0, 0))))
  case atStart => exact ⟨l, rfl, rfl, hid ⟨HO.out, HG.out, rfl, HB3.out⟩, T3⟩
  case round =>
    obtain ⟨L, rfl, rfl, hh, hT⟩ := hrel
    have hL := (goodProf_iff.1 hh.out.2.1).1
    have hpl := pkTo_lt L 24 (by omega)
    have htl := lwTo_lt L 24 (by omega)
    have hb : ∀ j, j < 24 → 0 ≤ el L j ∧ el L j ≤ 1000 := fun j hj => (goodProf_iff.1 hh.out.2.1).2.1 _ (getD_mem' (by omega))
    have hbp : 0 ≤ L[pkTo L 24]?.getD 0 ∧ L[pkTo L 24]?.getD 0 ≤ 1000 := hb _ hpl
    have hbt : 0 ≤ L[lwTo L 24]?.getD 0 ∧ L[lwTo L 24]?.getD 0 ≤ 1000 := hb _ htl
    have HL := hid hL
    clear hb hL
    have hcp0 := hh.out.1.cell (k := pkTo L 24) hpl
    have hgw : g < wr.heap.size := (hh.out.1.lt _ rfl).2
    by_cases hgt : most < L[pkTo L 24]?.getD 0
    · have hlow := low_small hh.out.2.1 (by show 100 < L[pkTo L 24]?.getD 0; omega)
      have hne : pkTo L 24 ≠ lwTo L 24 := fun e => by rw [e] at hgt; simp only [el] at hlow; omega
      have SG := hid (stepF_good hh.out.2.1 hm.1 hgt)
      have SF := hid (fin_step hh.out.2.1 hm.1 hgt)
      have hex := exc_pos most (stepF L)
      have hex2 := SG.out.2
      obtain ⟨W0, hW0⟩ : ∃ W, W = wr := ⟨_, rfl⟩
      subst hW0
      go_wp2
      go_loopg [8, 9] 23 (fun gg lo i wx => ∃ k : Nat, 1 ≤ k ∧ k ≤ 24 ∧ gg = 24 - k ∧ i = .int .i64 k ∧ lo = .int .i64 (lwTo L k) ∧ Hid (Below W0.heap.size W0 wx))
      case atStart => exact ⟨1, by omega, by omega, rfl, rfl, by simp [lwTo], hid (Below.refl _ _)⟩
      case round =>
        obtain ⟨k, hk1, hk, rfl, rfl, rfl, hB⟩ := hrel
        have O2 := hid (hh.out.1.below hB.out)
        have hgx : g < wr.heap.size := by have := hB.out.size; omega
        by_cases hlt : k < 24
        · have hlk := lwTo_lt L k hk1
          have hln : lwTo L k < 24 := by omega
          have hck := O2.out.cell (k := k) hlt
          have hcl := O2.out.cell (k := lwTo L k) hln
          by_cases hls : L[k]?.getD 0 < L[lwTo L k]?.getD 0
          · have E := hid (show lwTo L (k + 1) = k by simp [lwTo, el, hls])
            go_wp2
            go_quiet (fail)
            go_wp2
            go_roundg (24 - (k + 1))
            case rel => exact ⟨k + 1, by omega, by omega, rfl, by go_num, by rw [E.out], hid (below_drewN hB.out _)⟩
            case measure => omega
          · have E := hid (show lwTo L (k + 1) = lwTo L k by simp [lwTo, el, hls])
            go_wp2
            go_quiet (fail)
            go_wp2
            go_roundg (24 - (k + 1))
            case rel => exact ⟨k + 1, by omega, by omega, rfl, by go_num, by rw [E.out], hid (below_drewN hB.out _)⟩
            case measure => omega
        · obtain rfl : k = 24 := by omega
          have hcp := O2.out.cell (k := pkTo L 24) hpl
          have hct := O2.out.cell (k := lwTo L 24) htl
          have hfp := O2.out.frozen (k := pkTo L 24)
          have hft := O2.out.frozen (k := lwTo L 24)
          have hne2 : ¬ lwTo L 24 = pkTo L 24 := fun e => hne e.symm
          obtain ⟨o1, o2⟩ := own_step O2.out hne
          have O1 := hid o1
          have O3 := hid o2
          clear o1 o2 hcp0
          go_wp2_with fail
          refine (s_l6Peak _ _ _ (stepF L) _ O1.out.at (by omega) (by omega)).mono ?_
          rintro e w5 ⟨rfl, hb5⟩
          have HB5 := hid hb5
          clear hb5
          go_wp2
          go_roundg (exc most (stepF L)).toNat
          case rel =>
            have hrow := (hB.out.block (w.heap.size + 1) (Array.getElem?_eq_some_iff.1 hT.out).1).trans hT.out
            have hrow2 := other_cell (b := g) (o := lwTo L 24) (u := .int .i64 (el L (lwTo L 24) + 1)) (other_cell (b := g) (o := pkTo L 24) (u := .int .i64 (el L (pkTo L 24) - 1)) hrow (by omega)) (by omega)
            exact ⟨stepF L, rfl, rfl, hid ⟨O1.out.below HB5.out, SG.out.1, SF.out.symm.trans hh.out.2.2.1, bstep ((bstep hh.out.2.2.2 hB.out).grown O3.out (bstep hh.out.2.2.2 hB.out).size (fun q hq => by have := HB1.out.size; simp only [Option.some.injEq] at hq; omega)) HB5.out⟩, hid ((HB5.out.block _ (Array.getElem?_eq_some_iff.1 hrow2).1).trans hrow2)⟩
          case measure => omega
    · have FD := hid (fin_done (L := L) hgt)
      have hz9 : w.heap.size + 1 < wr.heap.size := (Array.getElem?_eq_some_iff.1 hT.out).1
      have n0 : wr.cell? ⟨w.heap.size + 1, 0, none⟩ = some (.slice none 0 0) := by rw [cell_of_row wr _ _ _ _ (0, 0) hT.out]; rfl
      have f0 := frozen_of_row wr _ 0 _ _ hT.out
      go_wp2
      have e7 := heap_setCell_same _ _ 0 _ _ (.slice (some ⟨g, 0, none⟩) 24 c2) hT.out
      have u0 := cell_of_row _ _ 0 _ _ (0, 0) e7
      simp only [List.setIfInBounds_toArray, List.set_cons_zero, List.getElem?_toArray, List.getElem?_cons_zero] at u0
      refine bodyPost_ret (v := .tuple #[.agg #[.slice (some ⟨g, 0, none⟩) 24 c2], .bool true]) (by simp [results, Try.results26, go_sem, *]) rfl ⟨_, _, rfl, ?_, ?_⟩
      · have e : fin most l = L := hh.out.2.2.1.symm.trans FD.out
        rw [e]
        exact (hh.out.1.far (by have := HB1.out.size; omega)).mono HB1.out.size
      · exact hh.out.2.2.2.setCell (by show _ ≤ w.heap.size + 1; omega) _

end Go.Proofs.Ytpmffboojkfpdaa
