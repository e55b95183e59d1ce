/-
  The table of least sums, as it lies in memory.
-/
import Derived.Test.YtpmffboojkfpdaaSplitP
import Derived.Test.YtpmffboojkfpdaaSplit
import Derived.Test.YtpmffboojkfpdaaSRows
set_option linter.unusedVariables false
set_option linter.unusedSimpArgs false
namespace Go.Proofs.Ytpmffboojkfpdaa
open Go.RowKit

/-- A row of a slice of slices: its value. -/
abbrev VRow := Option Addr × Nat × Nat
def vf (r : VRow) : List Value := [.slice r.1 r.2.1 r.2.2]
theorem vf_len (r : VRow) : (vf r).length = 1 := rfl
theorem Try.infoInts : (Try.prog.info? 22).map (fun i => (i.zero, i.size, i.bytes)) = some (some (.slice none 0 0), 1, 24) := by kernel_rfl

theorem cell_far {w w' : World} {row : Option Nat} {b o : Nat} (hg : w.grownBy w' row) (hb : b < w.heap.size) (hr : some b ≠ row) : w'.cell? ⟨b, o, none⟩ = w.cell? ⟨b, o, none⟩ := by
  unfold World.cell?
  rw [hg.block b hb hr]

/-- The rows from k on are filled. -/
structure Tab (w wr : World) (Zb g N T n t : Nat) (S : List Int) (k : Nat) : Prop where
  out : ∃ R : List VRow, OwnS vf 1 22 wr w.heap.size (.slice (some ⟨g, 0, none⟩) N N) R
  gz : g < Zb
  zs : Zb ≤ wr.heap.size
  rows : ∀ j, k ≤ j → j ≤ n → ∃ b, b < Zb ∧ b ≠ g ∧ wr.cell? ⟨g, j, none⟩ = some (.slice (some ⟨b, 0, none⟩) T T) ∧ ∀ a, a ≤ t → wr.cell? ⟨b, a, none⟩ = some (.int .i64 (least (S.drop j) a))
  bel : Below w.heap.size w wr
theorem Tab.kept {w wr w' : World} {Zb g N T n t k : Nat} {S : List Int} {row : Option Nat} (h : Tab w wr Zb g N T n t S k) (hg : wr.grownBy w' row) (hr : ∀ q, row = some q → Zb ≤ q) (hw : ∀ q, row = some q → w.heap.size ≤ q) : Tab w w' Zb g N T n t S k := by
  have hgz := h.gz
  have hzs := h.zs
  obtain ⟨R, ho⟩ := h.out
  have hne : ∀ b, b < Zb → some b ≠ row := fun b hb e => by have := hr b e.symm; omega
  refine ⟨⟨R, ho.kept hg (.inr (hne g hgz))⟩, hgz, Nat.le_trans hzs hg.size, fun j hj hn => ?_, h.bel.grown hg h.bel.size hw⟩
  obtain ⟨b, b1, b2, b3, b4⟩ := h.rows j hj hn
  exact ⟨b, b1, b2, (cell_far hg (by omega) (hne g hgz)).trans b3, fun a ha => (cell_far hg (by omega) (hne b b1)).trans (b4 a ha)⟩
theorem Tab.below {w wr w' : World} {Zb g N T n t k : Nat} {S : List Int} (h : Tab w wr Zb g N T n t S k) (hb : Below wr.heap.size wr w') : Tab w w' Zb g N T n t S k :=
  h.kept (grown_of_below hb none) (fun q e => by cases e) (fun q e => by cases e)
theorem Tab.le {w wr : World} {Zb Zc g N T n t k : Nat} {S : List Int} (h : Tab w wr Zb g N T n t S k) (h1 : Zb ≤ Zc) (h2 : Zc ≤ wr.heap.size) : Tab w wr Zc g N T n t S k :=
  ⟨h.out, by have := h.gz; omega, h2, fun j hj hn => let ⟨b, b1, b2⟩ := h.rows j hj hn; ⟨b, by omega, b2⟩, h.bel⟩
theorem Tab.cell0 {w wr : World} {Zb g N T n t k : Nat} {S : List Int} (h : Tab w wr Zb g N T n t S k) {j : Nat} (hj : j < N) : (∃ v, wr.cell? ⟨g, j, none⟩ = some v) ∧ wr.frozen? ⟨g, j, none⟩ = false := by
  obtain ⟨R, ho⟩ := h.out
  refine ⟨?_, OwnS.frozen ho⟩
  obtain ⟨b', o', e', -, y⟩ := (OwnS.at vf_len ho).2 j hj
  simp only [Option.some.injEq, Addr.mk.injEq, and_true] at e'
  obtain ⟨rfl, rfl⟩ := e'
  have := y 0 (by decide)
  simp only [Nat.mul_one, Nat.add_zero, Nat.zero_add] at this
  exact ⟨_, this⟩

/-- The row of block Z is being filled. -/
structure Fill (w wr : World) (Z g N T n t : Nat) (S : List Int) (i : Nat) (l : List Int) : Prop where
  tab : Tab w wr Z g N T n t S (i + 1)
  cur : wr.cell? ⟨g, i, none⟩ = some (.slice (some ⟨Z, 0, none⟩) T T)
  own : OwnI wr Z (.slice (some ⟨Z, 0, none⟩) T T) l
theorem Fill.step {w wr w' : World} {Z g N T n t i : Nat} {S l l' : List Int} (h : Fill w wr Z g N T n t S i l) (hg : wr.grownBy w' (some Z)) (ho : OwnI w' Z (.slice (some ⟨Z, 0, none⟩) T T) l') : Fill w w' Z g N T n t S i l' := by
  have h1 := h.tab.gz
  have h2 := h.tab.zs
  refine ⟨h.tab.kept hg (fun q e => by cases e; exact Nat.le_refl _) (fun q e => by
    cases e
    obtain ⟨R, hr⟩ := h.tab.out
    have h9 : w.heap.size ≤ g := (OwnS.lt hr g rfl).1
    omega), ?_, ho⟩
  exact (cell_far hg (by omega) (fun e => by have := Option.some.inj e; omega)).trans h.cur
theorem Fill.set {w wr : World} {Z g N T n t i : Nat} {S l : List Int} (h : Fill w wr Z g N T n t S i l) (a : Nat) (x : Int) : Fill w (wr.setCell ⟨Z, a, none⟩ (.int .i64 x)) Z g N T n t S i (l.set a x) :=
  h.step (h.own.set (k := a) x).2 (h.own.set (k := a) x).1
theorem Fill.below {w wr w' : World} {Z g N T n t i : Nat} {S l : List Int} (h : Fill w wr Z g N T n t S i l) (hb : Below wr.heap.size wr w') : Fill w w' Z g N T n t S i l :=
  h.step (grown_of_below hb _) (h.own.below hb)
theorem Fill.done {w wr : World} {Z g N T n t i : Nat} {S l : List Int} (h : Fill w wr Z g N T n t S i l) (hT : t + 1 = T) (hl : ∀ a, a < T → l[a]?.getD 0 = least (S.drop i) a) : Tab w wr (Z + 1) g N T n t S i := by
  have hz := (h.own.lt Z rfl).2
  have h1 := h.tab.gz
  refine ⟨h.tab.out, by omega, by omega, fun j hj hn => ?_, h.tab.bel⟩
  by_cases e : j = i
  · subst e
    exact ⟨Z, by omega, by omega, h.cur, fun a ha => by rw [h.own.cell (k := a) (by omega), hl a (by omega)]⟩
  · obtain ⟨b, b1, b2, b3⟩ := h.tab.rows j (by omega) hn
    exact ⟨b, by omega, b2, b3⟩
/-- The header of a new row is stored. -/
theorem Tab.put {w wr : World} {Zb Z g N T n t i : Nat} {S l : List Int} (h : Tab w wr Zb g N T n t S (i + 1)) (hi : i < N) (hz : Zb ≤ Z) (ho : OwnI wr Z (.slice (some ⟨Z, 0, none⟩) T T) l) : Fill w (wr.setCell ⟨g, i, none⟩ (.slice (some ⟨Z, 0, none⟩) T T)) Z g N T n t S i l := by
  have h1 := h.gz
  have h2 := h.zs
  have hzz := (ho.lt Z rfl).2
  obtain ⟨R, hr⟩ := h.out
  have hlw : w.heap.size ≤ g := (OwnS.lt hr g rfl).1
  have hzg : Z ≠ g := by omega
  obtain ⟨o1, g1⟩ := OwnS.set vf_len (by decide) hr hi (j := 0) (by decide) (.slice (some ⟨Z, 0, none⟩) T T) ((some ⟨Z, 0, none⟩, T, T) : VRow) rfl
  simp only [Nat.mul_one, Nat.add_zero] at o1 g1
  refine ⟨⟨⟨_, o1⟩, by omega, by have := g1.size; omega, fun j hj hn => ?_, h.bel.grown g1 h.bel.size (fun q e => by cases e; exact hlw)⟩, ?_, ho.kept g1 (.inr (fun e => hzg (Option.some.inj e)))⟩
  · obtain ⟨b, b1, b2, b3, b4⟩ := h.rows j hj hn
    refine ⟨b, by omega, b2, ?_, fun a ha => (cell_far g1 (by omega) (fun e => b2 (Option.some.inj e))).trans (b4 a ha)⟩
    rw [← b3]
    exact World.cell?_setCell_other _ _ _ _ (fun e => by have := congrArg Addr.off e; simp at this; omega)
  · obtain ⟨v, hv⟩ := (h.cell0 hi).1
    exact World.cell?_setCell_same _ _ _ hv

end Go.Proofs.Ytpmffboojkfpdaa
