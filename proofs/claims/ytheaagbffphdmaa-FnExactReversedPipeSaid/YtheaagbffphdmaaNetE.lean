/-
  Networks: supply, energy.
-/
import Derived.Test.YtheaagbffphdmaaNetI
import Derived.Test.YtheaagbffphdmaaNetS
import Derived.Test.YtheaagbffphdmaaNetD
import Derived.Test.YtheaagbffphdmaaNums
set_option linter.unusedVariables false
set_option linter.unusedSimpArgs false
namespace Go.Proofs.Ytheaagbffphdmaa
open Go.RowKit

theorem i_isFlowing (N : Int) (a b : Option Addr) (n c m d : Nat) (l : List Pip) (fs : List Int) (w : World) (h : QAt w a n l) (h' : IntsAt w b m fs) (hn : n ≤ 1048576) (hm : m ≤ 1048576) :
    Calls Try.prog 60 #[.agg #[.int .i64 N, .slice a n c], .slice b m d] w fun e w' => e = .returned (.bool (goodNet N l && goodFl n fs)) ∧ Below w.heap.size w w' := by
  have H := hid h
  have H' := hid h'
  clear h h'
  cases h1 : goodNet N l
  · have HG := hid h1
    clear h1
    go_enter Try.func60, Try.ntmps60
    go_wp2_with fail
    refine (i_IsValidNetwork N _ _ _ l _ (H.out.below (by go_grown)) (by omega)).mono ?_
    rintro e w1 ⟨rfl, hb1⟩
    rw [HG.out]
    obtain ⟨hc_w1, hf_w1⟩ := bcell hb1
    have hz_w1_0 : w.heap.size < w1.heap.size := by have := hb1.size; simp only [World.size_alloc] at this; omega
    have HB1 := hid (bstep (by go_grown) hb1 : Below w.heap.size w w1)
    go_wp2
    go_ret
    exact ⟨rfl, HB1.out⟩
  · have HG := hid h1
    clear h1
    go_enter Try.func60, Try.ntmps60
    go_wp2_with fail
    refine (i_IsValidNetwork N _ _ _ l _ (H.out.below (by go_grown)) (by omega)).mono ?_
    rintro e w1 ⟨rfl, hb1⟩
    rw [HG.out]
    obtain ⟨hc_w1, hf_w1⟩ := bcell hb1
    have hz_w1_0 : w.heap.size < w1.heap.size := by have := hb1.size; simp only [World.size_alloc] at this; omega
    have HB1 := hid (bstep (by go_grown) hb1 : Below w.heap.size w w1)
    go_wp2_with fail
    refine (i_areFlows N _ _ n _ _ _ fs _ (H'.out.below HB1.out) hm).mono ?_
    rintro e w2 ⟨rfl, hb2⟩
    go_wp2
    go_ret
    exact ⟨rfl, bstep HB1.out hb2⟩

/-- What SupplyOf returns. -/
def supply (N : Int) (l : List Pip) (ds : List Int) : Int × Bool := if goodNet N l = true ∧ goodDem N ds = true then (ds.sum, true) else (0, false)
theorem i_SupplyOf (N : Int) (a b : Option Addr) (n c m d : Nat) (l : List Pip) (ds : List Int) (w : World) (h : QAt w a n l) (h' : IntsAt w b m ds) (hn : n ≤ 1048576) (hm : m ≤ 1048576) (x : Int) (y : Bool) (hR : supply N l ds = (x, y)) :
    Calls Try.prog 19 #[.agg #[.int .i64 N, .slice a n c], .slice b m d] w fun e w' => e = .returned (.tuple #[.int .i64 x, .bool y]) ∧ Below w.heap.size w w' := by
  have H := hid h
  have H' := hid h'
  clear h h'
  cases h1 : goodNet N l
  · have HG := hid h1
    have e0 : supply N l ds = (0, false) := by simp [supply, h1]
    rw [e0] at hR
    cases hR
    clear h1 e0
    go_enter Try.func19, Try.ntmps19
    go_wp2_with fail
    refine (i_IsValidNetwork N _ _ _ l _ (H.out.below (by go_grown)) (by omega)).mono ?_
    rintro e w1 ⟨rfl, hb1⟩
    rw [HG.out]
    obtain ⟨hc_w1, hf_w1⟩ := bcell hb1
    have hz_w1_0 : w.heap.size < w1.heap.size := by have := hb1.size; simp only [World.size_alloc] at this; omega
    have HB1 := hid (bstep (by go_grown) hb1 : Below w.heap.size w w1)
    go_wp2
    go_ret2
    exact ⟨rfl, HB1.out⟩
  · have HG := hid h1
    cases h2 : goodDem N ds
    · have HD := hid h2
      have e0 : supply N l ds = (0, false) := by simp [supply, h2]
      rw [e0] at hR
      cases hR
      clear h1 h2 e0
      go_enter Try.func19, Try.ntmps19
      go_wp2_with fail
      refine (i_IsValidNetwork N _ _ _ l _ (H.out.below (by go_grown)) (by omega)).mono ?_
      rintro e w1 ⟨rfl, hb1⟩
      rw [HG.out]
      obtain ⟨hc_w1, hf_w1⟩ := bcell hb1
      have hz_w1_0 : w.heap.size < w1.heap.size := by have := hb1.size; simp only [World.size_alloc] at this; omega
      have HB1 := hid (bstep (by go_grown) hb1 : Below w.heap.size w w1)
      go_wp2_with fail
      refine (i_areDemands N _ _ n _ _ _ ds _ (H'.out.below HB1.out) hm).mono ?_
      rintro e w2 ⟨rfl, hb2⟩
      rw [HD.out]
      go_wp2
      go_ret2
      exact ⟨rfl, bstep HB1.out hb2⟩
    · have HD := hid h2
      have e0 : supply N l ds = (ds.sum, true) := by simp [supply, h1, h2]
      have HV := hid (show ∀ x ∈ ds, -1000000000000 ≤ x ∧ x ≤ 1000000000000 from fun x hx => by have := (goodDem_iff.1 h2).2 x hx; omega)
      rw [e0] at hR
      cases hR
      clear h1 h2 e0
      go_enter Try.func19, Try.ntmps19
      go_wp2_with fail
      refine (i_IsValidNetwork N _ _ _ l _ (H.out.below (by go_grown)) (by omega)).mono ?_
      rintro e w1 ⟨rfl, hb1⟩
      rw [HG.out]
      obtain ⟨hc_w1, hf_w1⟩ := bcell hb1
      have hz_w1_0 : w.heap.size < w1.heap.size := by have := hb1.size; simp only [World.size_alloc] at this; omega
      have HB1 := hid (bstep (by go_grown) hb1 : Below w.heap.size w w1)
      go_wp2_with fail
      refine (i_areDemands N _ _ n _ _ _ ds _ (H'.out.below HB1.out) hm).mono ?_
      rintro e w2 ⟨rfl, hb2⟩
      rw [HD.out]
      have HB2 := hid (bstep HB1.out hb2)
      go_wp2_with fail
      refine (i_sumInts _ _ _ ds _ (H'.out.below HB2.out) (by omega) HV.out).mono ?_
      rintro e _ ⟨rfl, rfl⟩
      go_wp2
      go_ret2
      exact ⟨rfl, HB2.out⟩
theorem s_SupplyOf (N : Int) (a b : Option Addr) (n c m d : Nat) (l : List Pip) (ds : List Int) (w : World) (h : QAt w a n l) (h' : IntsAt w b m ds) (hn : n ≤ 1048576) (hm : m ≤ 1048576) (x : Int) (y : Bool) (hR : supply N l ds = (x, y)) :
    Calls Try.prog 16 #[.agg #[.int .i64 N, .slice a n c], .slice b m d] w fun e w' => e = .returned (.tuple #[.int .i64 x, .bool y]) ∧ Below w.heap.size w w' := by
  have H := hid h
  have H' := hid h'
  clear h h'
  cases h1 : goodNet N l
  · have HG := hid h1
    have e0 : supply N l ds = (0, false) := by simp [supply, h1]
    rw [e0] at hR
    cases hR
    clear h1 e0
    go_enter Try.func16, Try.ntmps16
    go_wp2_with fail
    refine (s_l2Good N _ _ _ l _ (H.out.below (by go_grown)) (by omega)).mono ?_
    rintro e w1 ⟨rfl, hb1⟩
    rw [HG.out]
    obtain ⟨hc_w1, hf_w1⟩ := bcell hb1
    have hz_w1_0 : w.heap.size < w1.heap.size := by have := hb1.size; simp only [World.size_alloc] at this; omega
    have HB1 := hid (bstep (by go_grown) hb1 : Below w.heap.size w w1)
    go_wp2
    go_ret2
    exact ⟨rfl, HB1.out⟩
  · have HG := hid h1
    cases h2 : goodDem N ds
    · have HD := hid h2
      have e0 : supply N l ds = (0, false) := by simp [supply, h2]
      rw [e0] at hR
      cases hR
      clear h1 h2 e0
      go_enter Try.func16, Try.ntmps16
      go_wp2_with fail
      refine (s_l2Good N _ _ _ l _ (H.out.below (by go_grown)) (by omega)).mono ?_
      rintro e w1 ⟨rfl, hb1⟩
      rw [HG.out]
      obtain ⟨hc_w1, hf_w1⟩ := bcell hb1
      have hz_w1_0 : w.heap.size < w1.heap.size := by have := hb1.size; simp only [World.size_alloc] at this; omega
      have HB1 := hid (bstep (by go_grown) hb1 : Below w.heap.size w w1)
      go_wp2_with fail
      refine (s_l8Demands N _ _ n _ _ _ ds _ (H'.out.below HB1.out) hm).mono ?_
      rintro e w2 ⟨rfl, hb2⟩
      rw [HD.out]
      go_wp2
      go_ret2
      exact ⟨rfl, bstep HB1.out hb2⟩
    · have HD := hid h2
      have e0 : supply N l ds = (ds.sum, true) := by simp [supply, h1, h2]
      have HV := hid (show ∀ x ∈ ds, -1000000000000 ≤ x ∧ x ≤ 1000000000000 from fun x hx => by have := (goodDem_iff.1 h2).2 x hx; omega)
      rw [e0] at hR
      cases hR
      clear h1 h2 e0
      go_enter Try.func16, Try.ntmps16
      go_wp2_with fail
      refine (s_l2Good N _ _ _ l _ (H.out.below (by go_grown)) (by omega)).mono ?_
      rintro e w1 ⟨rfl, hb1⟩
      rw [HG.out]
      obtain ⟨hc_w1, hf_w1⟩ := bcell hb1
      have hz_w1_0 : w.heap.size < w1.heap.size := by have := hb1.size; simp only [World.size_alloc] at this; omega
      have HB1 := hid (bstep (by go_grown) hb1 : Below w.heap.size w w1)
      go_wp2_with fail
      refine (s_l8Demands N _ _ n _ _ _ ds _ (H'.out.below HB1.out) hm).mono ?_
      rintro e w2 ⟨rfl, hb2⟩
      rw [HD.out]
      have HB2 := hid (bstep HB1.out hb2)
      go_wp2_with fail
      refine (s_l8Sum _ _ _ ds _ (H'.out.below HB2.out) (by omega) HV.out).mono ?_
      rintro e _ ⟨rfl, rfl⟩
      go_wp2
      go_ret2
      exact ⟨rfl, HB2.out⟩

theorem s_l8Abs (x : Int) (w : World) (h : -4611686018427387904 ≤ x ∧ x ≤ 4611686018427387904) : Calls Try.prog 63 #[.int .i64 x] w fun e w' => e = .returned (.int .i64 (max x (-x))) ∧ w = w' := by
  go_enter Try.func63, Try.ntmps63
  go_wp2_with fail
  refine (s_l1Most _ _ _).mono ?_
  rintro e _ ⟨rfl, rfl⟩
  go_wp2
  go_ret
  exact ⟨rfl, rfl⟩

/-- The energy of flows. -/
def enrg (l : List Pip) (fs : List Int) (k : Nat) : Int := ((List.range k).map fun j => (pp l j).2.2.2 * max (fs[j]?.getD 0) (-(fs[j]?.getD 0)) * fs[j]?.getD 0 * fs[j]?.getD 0).sum
theorem enrg_succ (l : List Pip) (fs : List Int) (k : Nat) : enrg l fs (k + 1) = enrg l fs k + (pp l k).2.2.2 * max (fs[k]?.getD 0) (-(fs[k]?.getD 0)) * fs[k]?.getD 0 * fs[k]?.getD 0 := by simp [enrg, List.range_succ]
theorem enrg_fit {s q : Int} (hs : 1 ≤ s ∧ s ≤ 9) (hq : -2000 ≤ q ∧ q ≤ 2000) : (0 ≤ s * max q (-q) ∧ s * max q (-q) ≤ 18000) ∧ (-36000000 ≤ s * max q (-q) * q ∧ s * max q (-q) * q ≤ 36000000) ∧ (-72000000000 ≤ s * max q (-q) * q * q ∧ s * max q (-q) * q * q ≤ 72000000000) := by
  have hm : 0 ≤ max q (-q) ∧ max q (-q) ≤ 2000 := by omega
  have a1 := mul_in (x := s) (y := max q (-q)) (A := 9) (B := 2000) (by omega) (by omega)
  have a2 := Int.mul_nonneg (a := s) (b := max q (-q)) (by omega) (by omega)
  simp only [Int.reduceMul] at a1
  have b1 := mul_in (x := s * max q (-q)) (y := q) (A := 18000) (B := 2000) (by omega) (by omega)
  simp only [Int.reduceMul] at b1
  have c1 := mul_in (x := s * max q (-q) * q) (y := q) (A := 36000000) (B := 2000) (by omega) (by omega)
  simp only [Int.reduceMul] at c1
  exact ⟨⟨a2, by omega⟩, by omega, by omega⟩

end Go.Proofs.Ytheaagbffphdmaa
