/-
  A queue: a slice of whole numbers of the call's own, that begins anywhere in its block.
-/
import Derived.Test.YtheaagbffphdmaaBase
import Derived.Test.YtheaagbffphdmaaMem
import Derived.ArgAppend
set_option linter.unusedVariables false
set_option linter.unusedSimpArgs false
namespace Go.Proofs.Ytheaagbffphdmaa
open Go.RowKit

def QOwn (w : World) (B : Nat) (a : Option Addr) (n c : Nat) (l : List Int) : Prop :=
  ∃ g off cur, a = some ⟨g, off, none⟩ ∧ B ≤ g ∧ w.heap[g]? = some (.cells cur 3 (0, 0)) ∧ l.length = n ∧ n ≤ c ∧ off + c ≤ cur.size ∧ ∀ j, j < n → cur[off + j]? = some (.int .i64 (l[j]?.getD 0))

theorem QOwn.lt {w : World} {B n c : Nat} {a : Option Addr} {l : List Int} (h : QOwn w B a n c l) : ∀ k, Value.ownBlock (.slice a n c) = some k → B ≤ k ∧ k < w.heap.size := by
  obtain ⟨g, off, cur, rfl, hB, hg, -⟩ := h
  intro k hk
  simp only [Value.ownBlock, Option.some.injEq] at hk
  subst hk
  exact ⟨hB, (Array.getElem?_eq_some_iff.1 hg).1⟩
theorem QOwn.cell {w : World} {B n c k : Nat} {a : Option Addr} {l : List Int} (h : QOwn w B a n c l) (hk : k < n) : ∃ g off, a = some ⟨g, off, none⟩ ∧ g < w.heap.size ∧ w.cell? ⟨g, off + k, none⟩ = some (.int .i64 (l[k]?.getD 0)) := by
  obtain ⟨g, off, cur, rfl, hB, hg, hl, hc, hs, hj⟩ := h
  refine ⟨g, off, rfl, (Array.getElem?_eq_some_iff.1 hg).1, ?_⟩
  rw [cell_of_row w _ _ _ _ (0, 0) hg]
  exact hj k hk
theorem QOwn.below {w w' : World} {B n c : Nat} {a : Option Addr} {l : List Int} (h : QOwn w B a n c l) (hb : Below w.heap.size w w') : QOwn w' B a n c l := by
  obtain ⟨g, off, cur, rfl, hB, hg, rest⟩ := h
  exact ⟨g, off, cur, rfl, hB, (hb.block _ (Array.getElem?_eq_some_iff.1 hg).1).trans hg, rest⟩
theorem QOwn.kept {w w' : World} {B n c : Nat} {a : Option Addr} {l : List Int} {row : Option Nat} (h : QOwn w B a n c l) (hg : w.grownBy w' row) (hne : Value.ownBlock (.slice a n c) ≠ row) : QOwn w' B a n c l := by
  obtain ⟨g, off, cur, rfl, hB, hc, rest⟩ := h
  exact ⟨g, off, cur, rfl, hB, (hg.block _ (Array.getElem?_eq_some_iff.1 hc).1 (by simpa [Value.ownBlock] using hne)).trans hc, rest⟩
/-- The first one is taken out. -/
theorem QOwn.tail {w : World} {B n c : Nat} {g off : Nat} {x : Int} {l : List Int} (h : QOwn w B (some ⟨g, off, none⟩) (n + 1) c (x :: l)) : QOwn w B (some ⟨g, off + 1, none⟩) n (c - 1) l := by
  obtain ⟨g', off', cur, e, hB, hg, hl, hc, hs, hj⟩ := h
  simp only [Option.some.injEq, Addr.mk.injEq] at e
  obtain ⟨rfl, rfl, -⟩ := e
  refine ⟨g, off + 1, cur, rfl, hB, hg, by simpa using hl, by omega, by omega, fun j hj2 => ?_⟩
  have := hj (j + 1) (by omega)
  rw [show off + 1 + j = off + (j + 1) by omega, this]
  simp
/-- A row of the call's own is a queue. -/
theorem QOwn.of_own {w : World} {B n c : Nat} {a : Option Addr} {l : List Int} (h : OwnI w B (.slice a n c) l) (hn : 0 < n) : QOwn w B a n c l := by
  have hl := h.len
  unfold OwnI at h
  rcases h.2 with ⟨h1, h0⟩ | ⟨g, cap, cur, h1, hB, hg, hnc, hm, hs, ht⟩
  · simp only [Value.slice.injEq] at h1
    omega
  · simp only [Value.slice.injEq] at h1
    obtain ⟨rfl, -, rfl⟩ := h1
    refine ⟨g, 0, cur, rfl, hB, hg, hl, by omega, by omega, fun j hj => ?_⟩
    have e := congrArg (fun z => z[j]?) ht
    simp only [List.getElem?_take, Nat.mul_one, hl] at e
    rw [if_pos hj] at e
    rw [Nat.zero_add, ← Array.getElem?_toList, e]
    simp [show j < l.length by omega]


theorem wp_append_queue {ops : Array Oper} {rest : List Oper} {o : Oper} {a : Act} {Q : Exit → Act → World → Prop} (w : World) (hgd : o.guard = none) (so x : Operand)
    (ho : o.op = .call { callee := .builtin .append, args := #[so, x], argTypes := #[25, 25] })
    (B : Nat) (qa : Option Addr) (n c : Nat) (l : List Int) (hs : a.eval so = .slice qa n c) (hown : QOwn w B qa n c l)
    (ad : Addr) (c2 : Nat) (v : Int) (hx : a.eval x = .slice (some ad) 1 c2) (hcell : w.cell? ad = some (.int .i64 v)) (hn : n ≤ 1000000) (hB : B ≤ w.heap.size)
    (h : ∀ a' c' w', QOwn w' B a' (n + 1) c' (l ++ [v]) → w.grownBy w' (Value.ownBlock (.slice qa n c)) → (Value.ownBlock (.slice a' (n + 1) c') = Value.ownBlock (.slice qa n c) ∨ ∃ k, Value.ownBlock (.slice a' (n + 1) c') = some k ∧ w.heap.size ≤ k) → wpList Try.prog ops Q rest (a.put o.dst (.slice a' (n + 1) c')) w') : wpList Try.prog ops Q (o :: rest) a w := by
  obtain ⟨i, hi, hz, hsize, hby⟩ := info_parts Try.infoInt
  obtain ⟨g, off, cur, rfl, hBg, hg, hl, hc, hsz, hj⟩ := hown
  have hnews : ∀ j u, ([Value.int .i64 v] : List Value)[j]? = some u → w.cell? (ad.add j) = some u := by
    intro j u hu
    cases j with
    | zero => simp at hu; subst hu; simpa [Addr.add] using hcell
    | succ j => simp at hu
  refine wpList_plain hgd fun K hK => ?_
  by_cases hroom : n + 1 ≤ c
  · have hrun := run_append_room_cells (P := Try.prog) w 25 o.type 3 i Try.underlying25 hi g off n c ad 1 c2 [.int .i64 v] (by rw [hsize]; rfl) hnews (by simp [Value.oneCell']) hroom
      (by
        intro j hj2
        simp at hj2
        subst hj2
        rw [cell_of_row w _ _ _ _ (0, 0) hg, hsize, Array.getElem?_eq_getElem (by omega)]
        rfl)
      (by intro j hj2; exact frozen_of_row w _ _ _ _ hg)
    rw [hsize, Nat.mul_one] at hrun
    unfold Oper.wp
    simp [execOp, ho, resolve, invoke, builtin, hs, hx, hrun, Result.andThen]
    refine hK _ _ (h (some ⟨g, off, none⟩) c (w.setCell ⟨g, off + n, none⟩ (.int .i64 v)) ⟨g, off, _, rfl, hBg, heap_setCell_same w _ (off + n) _ _ (.int .i64 v) hg, by simp [hl], by omega, by simpa using hsz, ?_⟩ (grown_setCell w g (off + n) _) (.inl rfl))
    intro j hj2
    by_cases e : j = n
    · subst e
      have e3 : (l ++ [v])[j]?.getD 0 = v := by rw [List.getElem?_append_right (by omega)]; simp [hl]
      rw [e3]
      simp [Array.getElem?_setIfInBounds, show off + j < cur.size by omega]
    · rw [Array.getElem?_setIfInBounds_ne (by omega), hj j (by omega), List.getElem?_append_left (by omega)]
  · obtain ⟨v', w', hrun, r1, r2⟩ := run_append_arg_grows (P := Try.prog) w 25 o.type 3 i (.int .i64 0) 1 8 Try.underlying25 hi hz hsize hby rfl (by decide) ⟨g, off, none⟩ n c (l.map (Value.int .i64)) (by simp [hl])
      (by
        intro j u hu
        rw [addr_add, cell_of_row w _ _ _ _ (0, 0) hg]
        by_cases hjn : j < n
        · rw [hj j hjn, ← hu]; simp [show j < l.length by omega]
        · rw [List.getElem?_eq_none (by simp; omega)] at hu; cases hu)
      ad 1 c2 [.int .i64 v] rfl hnews (by omega) (by unfold maxLen; omega) (by omega)
    have ho2 : OwnI w' w.heap.size v' (l ++ [v]) := by
      unfold OwnI
      rw [List.map_append, List.length_append, hl]
      exact r1
    obtain ⟨a', c', rfl⟩ := ho2.form
    have e : (l ++ [v]).length = n + 1 := by simp [hl]
    rw [e] at ho2 hrun
    obtain ⟨g2, rfl, hg2, -⟩ : ∃ g2, a' = some ⟨g2, 0, none⟩ ∧ w.heap.size ≤ g2 ∧ True := by
      have hlt := ho2.lt
      unfold OwnI at ho2
      rcases ho2.2 with ⟨h1, h0⟩ | ⟨g, cap, cur, h1, hB, hg, hnc, hm, hs, ht⟩
      · simp only [Value.slice.injEq] at h1; omega
      · simp only [Value.slice.injEq] at h1
        obtain ⟨rfl, -, rfl⟩ := h1
        exact ⟨g, rfl, hB, trivial⟩
    unfold Oper.wp
    simp [execOp, ho, resolve, invoke, builtin, hs, hx, hrun, Result.andThen]
    exact hK _ _ (h _ _ _ (QOwn.of_own (ho2.mono hB) (by omega)) ⟨r2.os, r2.tape, r2.output, r2.size, fun k hk _ => r2.block k hk (by simp)⟩ (.inr ⟨g2, rfl, hg2⟩))

end Go.Proofs.Ytheaagbffphdmaa
