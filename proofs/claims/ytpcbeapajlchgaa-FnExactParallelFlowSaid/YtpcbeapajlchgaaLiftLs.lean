/-
  A list of curves, as an argument, opened.
-/
import Derived.Test.YtpcbeapajlchgaaLiftCurve
import Derived.Test.YtpcbeapajlchgaaLiftF
import Derived.Test.YtpcbeapajlchgaaCurveLc
set_option linter.unusedVariables false
set_option linter.unusedSimpArgs false
namespace Go.Proofs.Ytpcbeapajlchgaa
open Go.ChangeShapes Go.WideShapes Go.ChangeAt Go.RowKit Go.Joins Go.Deep

theorem Try.cellsCurveRow : Try.prog.cellsOf 22 = 1 := by kernel_rfl

theorem open_pts_f {H : Type} {enc : TypeId × Value → H} {W : World} {fuel : Nat} {v : Value} {y : DataW H × List MemPlace}
    (hf : DataW.trod enc Try.prog W 0 (fun _ => true) true fuel 22 [v] = some y) :
    ∃ a n c l, v = .slice a n c ∧ PAt W a n l ∧ n ≤ 9223372036854775807 ∧ ∀ x ∈ l, i64 x.1 ∧ i64 x.2 := by
  refine open_structs_f pf 2 (by decide) pf_len (fun x => i64 x.1 ∧ i64 x.2) Try.underlying22 Try.cellsCurvePoint ?_ hf
  intro fuel cs x hx
  obtain ⟨y0, y1, n, _, hlen, h0, h1⟩ := trod_struct2 Try.underlying67 hx
  rw [Try.cellsCurvePoint] at hlen
  rw [Try.cellsOfInt] at h0 h1
  obtain ⟨x0, e0, b0⟩ := int_cells hlen (by decide) h0
  obtain ⟨x1, e1, b1⟩ := int_cells hlen (by decide) h1
  refine ⟨(x0, x1), ?_, b0, b1⟩
  apply List.ext_getElem?
  intro i
  match i with
  | 0 => rw [e0]; rfl
  | 1 => rw [e1]; rfl
  | i + 2 => rw [List.getElem?_eq_none (by omega)]; rfl

theorem one_cell {H : Type} {enc : TypeId × Value → H} {W : World} {fuel : Nat} {cs : List Value} {y : DataW H × List MemPlace}
    (hf : DataW.trod enc Try.prog W 0 (fun _ => true) true fuel 22 cs = some y) : ∃ v, cs = [v] := by
  rcases open_slice Try.underlying22 hf with ⟨hcs, -⟩ | ⟨a, len, cap, m, n, D, Pl, hcs, -⟩
  · exact ⟨_, hcs⟩
  · exact ⟨_, hcs⟩

abbrev KRow := CRow × List Pt
def kf (y : KRow) : List Value := rf y.1
theorem open_lists_at {H : Type} {enc : TypeId × Value → H} {W : World} {base : Nat} {v : Value} {d : DataW H} {p : List MemPlace}
    (hv : Value.okWide Try.prog W .any base 40 v) (h : DataW.Trod enc Try.prog W 0 (fun _ => true) true 40 v d p) :
    ∃ a n c L, v = .slice a n c ∧ LAt W a n L ∧ n ≤ 9223372036854775807 ∧ ∀ k, k < n → (lk L k).length ≤ 9223372036854775807 := by
  obtain ⟨a, n, c, l, rfl, hs, hn, hl⟩ := open_structs_at (α := KRow) kf 1 (by decide) (fun y => rfl) (fun y => PAt W y.1.1 y.1.2.1 y.2 ∧ y.1.2.1 ≤ 9223372036854775807) Try.underlying40 Try.cellsCurveRow (by
    intro fuel cs x hx
    obtain ⟨v, rfl⟩ := one_cell hx
    obtain ⟨a, n, c, l, rfl, h1, h2, -⟩ := open_pts_f hx
    exact ⟨((a, n, c), l), rfl, h1, h2⟩) hv h
  have hk : ∀ k, k < n → ∃ y : KRow, l[k]? = some y ∧ PAt W y.1.1 y.1.2.1 y.2 ∧ y.1.2.1 ≤ 9223372036854775807 := fun k hk => by
    have e := List.getElem?_eq_getElem (l := l) (i := k) (by rw [hs.1]; exact hk)
    exact ⟨_, e, hl _ (List.getElem_mem _)⟩
  have e1 : ∀ k y, l[k]? = some y → row (l.map (·.1)) k = y.1 := fun k y e => by unfold row; rw [List.getElem?_map, e]; rfl
  have e2 : ∀ k y, l[k]? = some y → lk (l.map (·.2)) k = y.2 := fun k y e => by unfold lk; rw [List.getElem?_map, e]; rfl
  refine ⟨a, n, c, l.map (·.2), rfl, ⟨by rw [List.length_map]; exact hs.1, l.map (·.1), ⟨by rw [List.length_map]; exact hs.1, fun k hkn => ?_⟩, fun k hkn => ?_⟩, hn, fun k hkn => ?_⟩
  · obtain ⟨b, off, h1, h2, h3⟩ := hs.2 k hkn
    refine ⟨b, off, h1, h2, fun j hj => ?_⟩
    rw [h3 j hj]
    obtain ⟨y, hy, -⟩ := hk k hkn
    have := e1 k y hy
    unfold row at this
    rw [this, hy]
    rfl
  · obtain ⟨y, hy, h1, -⟩ := hk k hkn
    rw [e1 k y hy, e2 k y hy]
    exact h1
  · obtain ⟨y, hy, h1, h2⟩ := hk k hkn
    rw [e2 k y hy, h1.1]
    exact h2

end Go.Proofs.Ytpcbeapajlchgaa
