/-
  A curve, as an argument, opened.
-/
import Derived.Test.YtpcbeapajlchgaaLiftS
import Derived.Test.YtpcbeapajlchgaaCurveA
set_option linter.unusedVariables false
set_option linter.unusedSimpArgs false
namespace Go.Proofs.Ytpcbeapajlchgaa
open Go.ChangeShapes Go.WideShapes Go.ChangeAt Go.RowKit Go.Joins Go.Deep

theorem Try.cellsCurvePoint : Try.prog.cellsOf 67 = 2 := by kernel_rfl
theorem Try.cellsOfInt : Try.prog.cellsOf 3 = 1 := by kernel_rfl

theorem open_pts_at {H : Type} {enc : TypeId × Value → H} {W : World} {base : Nat} {v : Value} {d : DataW H} {p : List MemPlace}
    (hv : Value.okWide Try.prog W .any base 22 v) (h : DataW.Trod enc Try.prog W 0 (fun _ => true) true 22 v d p) :
    ∃ a n c l, v = .slice a n c ∧ PAt W a n l ∧ n ≤ 9223372036854775807 ∧ ∀ x ∈ l, i64 x.1 ∧ i64 x.2 := by
  refine open_structs_at pf 2 (by decide) pf_len (fun x => i64 x.1 ∧ i64 x.2) Try.underlying22 Try.cellsCurvePoint ?_ hv h
  intro fuel cs x hx
  obtain ⟨y0, y1, n, _, hlen, h0, h1⟩ := trod_struct2 Try.underlying67 hx
  rw [Try.cellsCurvePoint] at hlen
  rw [Try.cellsOfInt] at h0 h1
  obtain ⟨x0, e0, b0⟩ := int_cells hlen (by decide) h0
  obtain ⟨x1, e1, b1⟩ := int_cells hlen (by decide) h1
  refine ⟨(x0, x1), ?_, b0, b1⟩
  apply List.ext_getElem?
  intro i
  match i with
  | 0 => rw [e0]; rfl
  | 1 => rw [e1]; rfl
  | i + 2 => rw [List.getElem?_eq_none (by omega)]; rfl

end Go.Proofs.Ytpcbeapajlchgaa
