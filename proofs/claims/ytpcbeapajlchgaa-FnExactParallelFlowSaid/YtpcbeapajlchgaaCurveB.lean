/-
  Curves: whether one is above another: the parts.
-/
import Derived.Test.YtpcbeapajlchgaaCurveW0
import Derived.Test.YtpcbeapajlchgaaCalm
import Derived.Test.YtpcbeapajlchgaaInts
set_option linter.unusedVariables false
set_option linter.unusedSimpArgs false
namespace Go.Proofs.Ytpcbeapajlchgaa
open Go.RowKit

/-- Less, equal or greater. -/
def cmpI (x y : Int) : Int := if x < y then -1 else if y < x then 1 else 0
theorem cmpI_neg {x y : Int} : cmpI x y < 0 ↔ x < y := by
  unfold cmpI
  split
  · simp [*]
  · split <;> simp [*]

theorem f_isNaN (x : Int) (w : World) : Calls Try.prog 93 #[.int .i64 x] w fun e w' => e = .returned (.bool false) ∧ w = w' := by
  have hx : (x != x) = false := by simp
  go_enter Try.func93, Try.ntmps93
  go_wp2
  go_ret
  exact ⟨ret_bool (by simp), rfl⟩

theorem f_Compare (x y : Int) (w : World) : Calls Try.prog 90 #[.int .i64 x, .int .i64 y] w fun e w' => e = .returned (.int .i64 (cmpI x y)) ∧ w = w' := by
  by_cases h1 : x < y
  · have E := hid (show -1 = cmpI x y by simp [cmpI, h1])
    go_enter Try.func90, Try.ntmps90
    go_wp2_with fail
    refine (f_isNaN _ _).mono ?_
    rintro e _ ⟨rfl, rfl⟩
    go_wp2_with fail
    refine (f_isNaN _ _).mono ?_
    rintro e _ ⟨rfl, rfl⟩
    go_wp2
    go_ret
    exact ⟨ret_int E.out, rfl⟩
  · by_cases h2 : y < x
    · have E := hid (show 1 = cmpI x y by simp [cmpI, h1, h2])
      go_enter Try.func90, Try.ntmps90
      go_wp2_with fail
      refine (f_isNaN _ _).mono ?_
      rintro e _ ⟨rfl, rfl⟩
      go_wp2_with fail
      refine (f_isNaN _ _).mono ?_
      rintro e _ ⟨rfl, rfl⟩
      go_wp2
      go_ret
      exact ⟨ret_int E.out, rfl⟩
    · have E := hid (show 0 = cmpI x y by simp [cmpI, h1, h2])
      go_enter Try.func90, Try.ntmps90
      go_wp2_with fail
      refine (f_isNaN _ _).mono ?_
      rintro e _ ⟨rfl, rfl⟩
      go_wp2_with fail
      refine (f_isNaN _ _).mono ?_
      rintro e _ ⟨rfl, rfl⟩
      go_wp2
      go_ret
      exact ⟨ret_int E.out, rfl⟩

theorem i_compare (a b c d : Int) (w : World) (h1 : -4611686018427387904 ≤ a * d ∧ a * d ≤ 4611686018427387904) (h2 : -4611686018427387904 ≤ c * b ∧ c * b ≤ 4611686018427387904) :
    Calls Try.prog 70 #[.agg #[.int .i64 a, .int .i64 b], .agg #[.int .i64 c, .int .i64 d]] w fun e w' => e = .returned (.int .i64 (cmpI (a * d) (c * b))) ∧ Below w.heap.size w w' := by
  go_enter Try.func70, Try.ntmps70
  go_wp2_with fail
  refine (f_Compare _ _ _).mono ?_
  rintro e _ ⟨rfl, rfl⟩
  go_wp2
  go_ret
  exact ⟨rfl, by go_grown⟩

/-- The segment of a flow. -/
noncomputable def segK (l : List Pt) (n : Nat) (q : Int) : Nat := by
  classical
  exact if h : ∃ k, Seg n (fun j => q ≤ (pt l j).1) k then Classical.choose h else 0
theorem segK_is {l : List Pt} {n : Nat} {q : Int} (h : ∃ k, Seg n (fun j => q ≤ (pt l j).1) k) : Seg n (fun j => q ≤ (pt l j).1) (segK l n q) := by
  unfold segK
  rw [dif_pos h]
  exact Classical.choose_spec h
noncomputable def hN (l : List Pt) (n : Nat) (q : Int) : Int := lowN (hdN l (segK l n q) q) (hdD l (segK l n q))
noncomputable def hD (l : List Pt) (n : Nat) (q : Int) : Int := lowD (hdN l (segK l n q) q) (hdD l (segK l n q))
theorem h_fit {l : List Pt} {n : Nat} {q : Int} (hg : goodCurve l = true) (hn : l.length = n) (hq : hasQ l n q = true) : (0 ≤ q ∧ q ≤ 1000) ∧ (-4000000 ≤ hN l n q ∧ hN l n q ≤ 4000000) ∧ (0 < hD l n q ∧ hD l n q ≤ 1000) := by
  have hs := segK_is (seg_flow hg hn hq)
  have hl := good_len hg hn
  have hp := pt_flow hg hn (k := n - 1) (by omega)
  have hq2 : 0 ≤ q ∧ q ≤ 1000 := by have := inR_iff.1 hq; omega
  obtain ⟨k1, k2, -, -⟩ := hs
  obtain ⟨p1, p2⟩ := pt_flow hg hn (k := segK l n q - 1) (by omega)
  obtain ⟨p3, p4⟩ := pt_flow hg hn (k := segK l n q) (by omega)
  obtain ⟨p5, p6⟩ := pt_step hg hn (k := segK l n q) (by omega) (by omega)
  have q1 := mul_in (x := (pt l (segK l n q - 1)).2) (y := (pt l (segK l n q)).1 - q) (A := 1000) (B := 1000) (by omega) (by omega)
  have q2 := mul_in (x := (pt l (segK l n q)).2) (y := q - (pt l (segK l n q - 1)).1) (A := 1000) (B := 1000) (by omega) (by omega)
  simp only [Int.reduceMul] at q1 q2
  have hd : 0 < hdD l (segK l n q) ∧ hdD l (segK l n q) ≤ 1000 := by unfold hdD; omega
  have hnn : -4000000 ≤ hdN l (segK l n q) q ∧ hdN l (segK l n q) q ≤ 4000000 := by unfold hdN; omega
  have c1 := lowN_fine (a := hdN l (segK l n q) q) hd.1 hnn
  have c2 := lowD_le (a := hdN l (segK l n q) q) hd.1
  have c3 := lowD_pos (a := hdN l (segK l n q) q) hd.1
  exact ⟨hq2, c1, c3, by unfold hD; omega⟩
/-- At a flow that both have, the first curve is under the second one. -/
noncomputable def under (a : List Pt) (n : Nat) (b : List Pt) (m : Nat) (q : Int) : Bool := hasQ a n q && hasQ b m q && decide (hN a n q * hD b m q < hN b m q * hD a n q)
noncomputable def aboveR (a b : List Pt) : Bool × Bool := if goodCurve a = true ∧ goodCurve b = true then (!((a ++ b).any fun p => under a a.length b b.length p.1), true) else (false, false)

theorem any_at {l : List Pt} {p : Pt → Bool} {k : Nat} (hk : k < l.length) (h : p (pt l k) = true) : l.any p = true := by
  rw [List.any_eq_true]
  refine ⟨pt l k, ?_, h⟩
  unfold pt
  rw [List.getElem?_eq_getElem hk]
  exact List.getElem_mem hk
theorem any_none {l : List Pt} {p : Pt → Bool} (h : ∀ k, k < l.length → p (pt l k) = false) : l.any p = false := by
  rw [List.any_eq_false]
  intro x hx
  obtain ⟨j, hj, rfl⟩ := List.mem_iff_getElem.1 hx
  have := h j hj
  unfold pt at this
  rw [List.getElem?_eq_getElem hj] at this
  simpa using this

end Go.Proofs.Ytpcbeapajlchgaa
