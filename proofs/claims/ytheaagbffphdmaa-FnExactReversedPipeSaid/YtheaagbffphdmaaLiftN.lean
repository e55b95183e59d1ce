/-
  A network, as an argument, opened.
-/
import Derived.Test.YtheaagbffphdmaaLiftF
import Derived.Test.YtheaagbffphdmaaPipeA
set_option linter.unusedVariables false
set_option linter.unusedSimpArgs false
namespace Go.Proofs.Ytheaagbffphdmaa
open Go.ChangeShapes Go.WideShapes Go.ChangeAt Go.RowKit Go.Joins Go.Deep

theorem Try.cellsPipe : Try.prog.cellsOf 85 = 4 := by kernel_rfl
theorem Try.cellsNetwork : Try.prog.cellsOf 24 = 2 := by kernel_rfl
theorem Try.cellsOfInt : Try.prog.cellsOf 3 = 1 := by kernel_rfl

set_option maxRecDepth 100000 in
theorem open_net {H : Type} {enc : TypeId × Value → H} {W : World} {base : Nat} {v : Value} {d : DataW H} {p : List MemPlace}
    (hv : Value.okWide Try.prog W .any base 24 v) (h : DataW.Trod enc Try.prog W 0 (fun _ => true) true 24 v d p) :
    ∃ N a n c l, v = .agg #[.int .i64 N, .slice a n c] ∧ QAt W a n l ∧ n ≤ 9223372036854775807 := by
  obtain ⟨v0, v1, y0, y1, m, rfl, rfl, rfl, h0, h1⟩ := open_agg2 Try.underlying24 (by kernel_rfl) Try.cellsNetwork hv h
  obtain ⟨N, e0, _, _⟩ := DataW.trod_int Try.underlying3 h0
  simp only [List.cons.injEq, and_true] at e0
  subst e0
  obtain ⟨a, n, c, l, rfl, g, hm, -⟩ := open_structs_f qf 4 (by decide) qf_len (fun _ => True) Try.underlying22 Try.cellsPipe (by
    intro fuel cs x hx
    obtain ⟨z0, z1, z2, z3, k, _, hlen, h0, h1, h2, h3⟩ := trod_struct4 Try.underlying85 hx
    rw [Try.cellsPipe] at hlen
    rw [Try.cellsOfInt] at h0 h1 h2 h3
    obtain ⟨x0, e0, b0⟩ := int_cells hlen (by decide) h0
    obtain ⟨x1, e1, b1⟩ := int_cells hlen (by decide) h1
    obtain ⟨x2, e2, b2⟩ := int_cells hlen (by decide) h2
    obtain ⟨x3, e3, b3⟩ := int_cells hlen (by decide) h3
    refine ⟨(x0, x1, x2, x3), ?_, trivial⟩
    apply List.ext_getElem?
    intro i
    match i with
    | 0 => rw [e0]; rfl
    | 1 => rw [e1]; rfl
    | 2 => rw [e2]; rfl
    | 3 => rw [e3]; rfl
    | i + 4 => rw [List.getElem?_eq_none (by omega)]; rfl) h1
  exact ⟨N, a, n, c, l, rfl, g, hm⟩

end Go.Proofs.Ytheaagbffphdmaa
