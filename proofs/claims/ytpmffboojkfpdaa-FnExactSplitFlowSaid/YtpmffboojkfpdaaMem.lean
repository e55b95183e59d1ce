/-
  A slice of a call's own stays as it is where another block is written.
-/
import Derived.Test.YtpmffboojkfpdaaBase
set_option linter.unusedVariables false
namespace Go.Proofs.Ytpmffboojkfpdaa
open Go.RowKit

theorem grown_setCell (w : World) (b o : Nat) (u : Value) : w.grownBy (w.setCell ⟨b, o, none⟩ u) (some b) :=
  ⟨rfl, rfl, rfl, by simp, fun k _ hk => Below.heap_setCell _ _ _ _ (fun e => hk (by rw [e]))⟩
theorem OwnI.far {w : World} {B b o : Nat} {v u : Value} {l : List Int} (h : OwnI w B v l) (hb : b < B) : OwnI (w.setCell ⟨b, o, none⟩ u) B v l :=
  h.kept (grown_setCell w b o u) (by
    cases hv : v.ownBlock with
    | none => exact .inl rfl
    | some k =>
      refine .inr fun e => ?_
      have := (h.lt k hv).1
      cases e
      omega)
theorem sum_fit {l : List Int} {B : Int} (hB : 0 ≤ B) (h : ∀ x ∈ l, 0 ≤ x ∧ x ≤ B) : 0 ≤ l.sum ∧ l.sum ≤ B * (l.length : Int) := by
  induction l with
  | nil => simp
  | cons x r ih =>
    have h1 := h x (by simp)
    have h2 := ih fun y hy => h y (by simp [hy])
    simp only [List.sum_cons, List.length_cons]
    have e : B * ((r.length + 1 : Nat) : Int) = B * (r.length : Int) + B := by rw [Int.natCast_add, Int.mul_add]; simp
    omega
theorem getD_mem' {l : List Int} {k : Nat} (hk : k < l.length) : l[k]?.getD 0 ∈ l := by
  rw [List.getElem?_eq_getElem hk]
  exact List.getElem_mem hk

theorem mid_new (W : World) (x y : Obj) (g : Nat) (hg : g = W.heap.size) : ((W.alloc x).alloc y).heap[g]? = some x := by
  subst hg
  rw [Below.heap_alloc _ _ _ (by simp)]
  exact heap_alloc_new _ _
theorem other_cell {W : World} {b o g : Nat} {u : Value} {x : Obj} (h : W.heap[g]? = some x) (hne : g ≠ b) : (W.setCell ⟨b, o, none⟩ u).heap[g]? = some x := (Below.heap_setCell _ _ _ _ hne).trans h

end Go.Proofs.Ytpmffboojkfpdaa
