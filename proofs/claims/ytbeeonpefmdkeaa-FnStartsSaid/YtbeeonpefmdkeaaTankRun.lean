/-
  What a day makes of a tank: impl.runTank and spec.l11Run.
-/
import Derived.Test.YtbeeonpefmdkeaaTankDay
set_option linter.unusedVariables false
set_option linter.unusedSimpArgs false
namespace Go.Proofs.Ytbeeonpefmdkeaa
open Go.RowKit

/-- The level behind k hours. -/
def lvAt (a b lv : Int) (ins outs : List Int) : Nat → Int
  | 0 => lv
  | k + 1 => stLevel a b (lvAt a b lv ins outs k) (ins[k]?.getD 0) (outs[k]?.getD 0)
def levelsOf (a b lv : Int) (ins outs : List Int) (n : Nat) : List Int := (List.range n).map (fun k => lvAt a b lv ins outs (k + 1))
def spillsOf (a b lv : Int) (ins outs : List Int) (n : Nat) : List Int := (List.range n).map (fun k => stSpill b (lvAt a b lv ins outs k) (ins[k]?.getD 0))
def missOf (a b lv : Int) (ins outs : List Int) (n : Nat) : List Int := (List.range n).map (fun k => stMiss a b (lvAt a b lv ins outs k) (ins[k]?.getD 0) (outs[k]?.getD 0))

theorem levelsOf_succ (a b lv : Int) (ins outs : List Int) (n : Nat) : levelsOf a b lv ins outs (n + 1) = levelsOf a b lv ins outs n ++ [lvAt a b lv ins outs (n + 1)] := by simp [levelsOf, List.range_succ]
theorem spillsOf_succ (a b lv : Int) (ins outs : List Int) (n : Nat) : spillsOf a b lv ins outs (n + 1) = spillsOf a b lv ins outs n ++ [stSpill b (lvAt a b lv ins outs n) (ins[n]?.getD 0)] := by simp [spillsOf, List.range_succ]
theorem missOf_succ (a b lv : Int) (ins outs : List Int) (n : Nat) : missOf a b lv ins outs (n + 1) = missOf a b lv ins outs n ++ [stMiss a b (lvAt a b lv ins outs n) (ins[n]?.getD 0) (outs[n]?.getD 0)] := by simp [missOf, List.range_succ]
theorem levelsOf_length (a b lv : Int) (ins outs : List Int) (n : Nat) : (levelsOf a b lv ins outs n).length = n := by simp [levelsOf]
theorem spillsOf_length (a b lv : Int) (ins outs : List Int) (n : Nat) : (spillsOf a b lv ins outs n).length = n := by simp [spillsOf]
theorem missOf_length (a b lv : Int) (ins outs : List Int) (n : Nat) : (missOf a b lv ins outs n).length = n := by simp [missOf]

theorem lvAt_good {a b lv : Int} {ins outs : List Int} (h : goodTank lv a b = true) (h4 : ∀ x ∈ ins, 0 ≤ x ∧ x ≤ 100) (h5 : ∀ x ∈ outs, 0 ≤ x ∧ x ≤ 100) (hl : outs.length = ins.length) : ∀ k, k ≤ ins.length → goodTank (lvAt a b lv ins outs k) a b = true
  | 0, _ => h
  | k + 1, hk => stLevel_in (lvAt_good h h4 h5 hl k (by omega)) (inR_iff.2 (h4 _ (getD_mem ins k (by omega)))) (inR_iff.2 (h5 _ (getD_mem outs k (by omega))))

def Apart (x y : Option Nat) : Prop := x = none ∨ x ≠ y
theorem Apart.symm {x y : Option Nat} (h : Apart x y) : Apart y x := by
  rcases h with h | h
  · subst h; cases y with
    | none => exact Or.inl rfl
    | some _ => exact Or.inr (by simp)
  · exact Or.inr (fun e => h e.symm)
theorem Apart.next {x x' y : Option Nat} {s : Nat} (h : Apart x y) (hx : x' = x ∨ x' = some s) (hy : ∀ g, y = some g → g < s) : Apart x' y := by
  rcases hx with rfl | rfl
  · exact h
  · refine Or.inr (fun e => ?_)
    have := hy s e.symm
    omega

/-- Where the day's three slices stand in the round. -/
structure DayRel (w wr : World) (lv a b : Int) (v1 v2 v3 : Value) (l1 l2 l3 : List Int) : Prop where
  t3 : wr.heap[w.heap.size]? = some (.cells #[.int .i64 lv, .int .i64 a, .int .i64 b] 25 (0, 0))
  t6 : wr.heap[w.heap.size + 1]? = some (.cells #[.slice none 0 0, .slice none 0 0, .slice none 0 0] 70 (0, 0))
  t7 : wr.heap[w.heap.size + 2]? = some (.cells #[v1, v2, v3] 70 (0, 0))
  o1 : OwnI wr (w.heap.size + 3) v1 l1
  o2 : OwnI wr (w.heap.size + 3) v2 l2
  o3 : OwnI wr (w.heap.size + 3) v3 l3
  a12 : Apart v1.ownBlock v2.ownBlock
  a13 : Apart v1.ownBlock v3.ownBlock
  a23 : Apart v2.ownBlock v3.ownBlock
  below : Below w.heap.size w wr

theorem DayRel.start (w : World) (lv a b : Int) : DayRel w (((w.alloc (.cells #[.int .i64 lv, .int .i64 a, .int .i64 b] 25)).alloc (.cells #[.slice none 0 0, .slice none 0 0, .slice none 0 0] 70)).alloc (.cells #[.slice none 0 0, .slice none 0 0, .slice none 0 0] 70)) lv a b (.slice none 0 0) (.slice none 0 0) (.slice none 0 0) [] [] [] := by
  refine ⟨?_, ?_, ?_, OwnI.nil _ _, OwnI.nil _ _, OwnI.nil _ _, Or.inl rfl, Or.inl rfl, Or.inl rfl, ?_⟩
  · rw [Below.heap_alloc _ _ _ (by simp; omega), Below.heap_alloc _ _ _ (by simp)]; exact heap_alloc_new w _
  · rw [Below.heap_alloc _ _ _ (by simp)]
    have := heap_alloc_new (w.alloc (.cells #[.int .i64 lv, .int .i64 a, .int .i64 b] 25)) (.cells #[.slice none 0 0, .slice none 0 0, .slice none 0 0] 70)
    simpa using this
  · have := heap_alloc_new ((w.alloc (.cells #[.int .i64 lv, .int .i64 a, .int .i64 b] 25)).alloc (.cells #[.slice none 0 0, .slice none 0 0, .slice none 0 0] 70)) (.cells #[.slice none 0 0, .slice none 0 0, .slice none 0 0] 70)
    simpa using this
  · exact (((Below.refl _ _).alloc (Nat.le_refl _) _).alloc (by simp) _).alloc (by simp; omega) _

section
variable {w wr : World} {lv a b : Int} {v1 v2 v3 : Value} {l1 l2 l3 : List Int}
theorem DayRel.size (h : DayRel w wr lv a b v1 v2 v3 l1 l2 l3) : w.heap.size + 2 < wr.heap.size := (Array.getElem?_eq_some_iff.1 h.t7).1
theorem DayRel.c3 (h : DayRel w wr lv a b v1 v2 v3 l1 l2 l3) : wr.cell? ⟨w.heap.size, 0, none⟩ = some (.int .i64 lv) ∧ wr.cell? ⟨w.heap.size, 1, none⟩ = some (.int .i64 a) ∧ wr.cell? ⟨w.heap.size, 2, none⟩ = some (.int .i64 b) := by
  refine ⟨?_, ?_, ?_⟩ <;> rw [cell_of_row wr _ _ _ _ (0, 0) h.t3] <;> rfl
theorem DayRel.f3 (h : DayRel w wr lv a b v1 v2 v3 l1 l2 l3) (j : Nat) : wr.frozen? ⟨w.heap.size, j, none⟩ = false := frozen_of_row wr _ j _ _ h.t3
theorem DayRel.c7 (h : DayRel w wr lv a b v1 v2 v3 l1 l2 l3) : wr.cell? ⟨w.heap.size + 1 + 1, 0, none⟩ = some v1 ∧ wr.cell? ⟨w.heap.size + 1 + 1, 1, none⟩ = some v2 ∧ wr.cell? ⟨w.heap.size + 1 + 1, 2, none⟩ = some v3 := by
  refine ⟨?_, ?_, ?_⟩ <;> rw [cell_of_row wr _ _ _ _ (0, 0) h.t7] <;> rfl
theorem DayRel.f7 (h : DayRel w wr lv a b v1 v2 v3 l1 l2 l3) (j : Nat) : wr.frozen? ⟨w.heap.size + 1 + 1, j, none⟩ = false := frozen_of_row wr _ j _ _ h.t7
theorem DayRel.c6 (h : DayRel w wr lv a b v1 v2 v3 l1 l2 l3) : wr.cell? ⟨w.heap.size + 1, 0, none⟩ = some (.slice none 0 0) ∧ wr.cell? ⟨w.heap.size + 1, 1, none⟩ = some (.slice none 0 0) ∧ wr.cell? ⟨w.heap.size + 1, 2, none⟩ = some (.slice none 0 0) := by
  refine ⟨?_, ?_, ?_⟩ <;> rw [cell_of_row wr _ _ _ _ (0, 0) h.t6] <;> rfl
theorem DayRel.f6 (h : DayRel w wr lv a b v1 v2 v3 l1 l2 l3) (j : Nat) : wr.frozen? ⟨w.heap.size + 1, j, none⟩ = false := frozen_of_row wr _ j _ _ h.t6
/-- the end: the day is laid into the result -/
theorem DayRel.fin (h : DayRel w wr lv a b v1 v2 v3 l1 l2 l3) (u1 u2 u3 : Value) : Below w.heap.size w (((wr.setCell ⟨w.heap.size + 1, 0, none⟩ u1).setCell ⟨w.heap.size + 1, 1, none⟩ u2).setCell ⟨w.heap.size + 1, 2, none⟩ u3) ∧
    OwnI (((wr.setCell ⟨w.heap.size + 1, 0, none⟩ u1).setCell ⟨w.heap.size + 1, 1, none⟩ u2).setCell ⟨w.heap.size + 1, 2, none⟩ u3) w.heap.size v1 l1 ∧ OwnI (((wr.setCell ⟨w.heap.size + 1, 0, none⟩ u1).setCell ⟨w.heap.size + 1, 1, none⟩ u2).setCell ⟨w.heap.size + 1, 2, none⟩ u3) w.heap.size v2 l2 ∧ OwnI (((wr.setCell ⟨w.heap.size + 1, 0, none⟩ u1).setCell ⟨w.heap.size + 1, 1, none⟩ u2).setCell ⟨w.heap.size + 1, 2, none⟩ u3) w.heap.size v3 l3 := by
  have hs := h.size
  have hk : ∀ k, k ≠ w.heap.size + 1 → (((wr.setCell ⟨w.heap.size + 1, 0, none⟩ u1).setCell ⟨w.heap.size + 1, 1, none⟩ u2).setCell ⟨w.heap.size + 1, 2, none⟩ u3).heap[k]? = wr.heap[k]? := fun k hk => by
    rw [Below.heap_setCell _ _ _ _ hk, Below.heap_setCell _ _ _ _ hk, Below.heap_setCell _ _ _ _ hk]
  have hgr : wr.grownBy (((wr.setCell ⟨w.heap.size + 1, 0, none⟩ u1).setCell ⟨w.heap.size + 1, 1, none⟩ u2).setCell ⟨w.heap.size + 1, 2, none⟩ u3) (some (w.heap.size + 1)) := ⟨rfl, rfl, rfl, by simp, fun k _ hk' => hk k (fun e => hk' (by rw [e]))⟩
  have ho : ∀ {v : Value} {l : List Int}, OwnI wr (w.heap.size + 3) v l → OwnI (((wr.setCell ⟨w.heap.size + 1, 0, none⟩ u1).setCell ⟨w.heap.size + 1, 1, none⟩ u2).setCell ⟨w.heap.size + 1, 2, none⟩ u3) w.heap.size v l := fun {v l} h' => (h'.kept hgr (by
    cases hv : v.ownBlock with
    | none => exact Or.inl rfl
    | some g => exact Or.inr (fun e => by have := (h'.lt g hv).1; cases e; omega))).mono (by omega)
  exact ⟨h.below.grown hgr (by omega) (fun k hk => by cases hk; omega), ho h.o1, ho h.o2, ho h.o3⟩
/-- whatever leaves what was there -/
theorem DayRel.more {wx : World} (h : DayRel w wr lv a b v1 v2 v3 l1 l2 l3) (hb : Below wr.heap.size wr wx) : DayRel w wx lv a b v1 v2 v3 l1 l2 l3 := by
  have hs := h.size
  refine ⟨(hb.block _ (by omega)).trans h.t3, (hb.block _ (by omega)).trans h.t6, (hb.block _ (by omega)).trans h.t7, h.o1.below hb, h.o2.below hb, h.o3.below hb, h.a12, h.a13, h.a23, bstep h.below hb⟩
/-- a store of the tank -/
theorem DayRel.put (h : DayRel w wr lv a b v1 v2 v3 l1 l2 l3) (x : Int) : DayRel w (((wr.setCell ⟨w.heap.size, 0, none⟩ (.int .i64 x)).setCell ⟨w.heap.size, 1, none⟩ (.int .i64 a)).setCell ⟨w.heap.size, 2, none⟩ (.int .i64 b)) x a b v1 v2 v3 l1 l2 l3 := by
  have hs := h.size
  have e3 := heap_setCell_same _ _ 2 _ _ (.int .i64 b) (heap_setCell_same _ _ 1 _ _ (.int .i64 a) (heap_setCell_same wr _ 0 _ _ (.int .i64 x) h.t3))
  have hk : ∀ k, k ≠ w.heap.size → (((wr.setCell ⟨w.heap.size, 0, none⟩ (.int .i64 x)).setCell ⟨w.heap.size, 1, none⟩ (.int .i64 a)).setCell ⟨w.heap.size, 2, none⟩ (.int .i64 b)).heap[k]? = wr.heap[k]? := fun k hk => by
    rw [Below.heap_setCell _ _ _ _ hk, Below.heap_setCell _ _ _ _ hk, Below.heap_setCell _ _ _ _ hk]
  have hgr : wr.grownBy (((wr.setCell ⟨w.heap.size, 0, none⟩ (.int .i64 x)).setCell ⟨w.heap.size, 1, none⟩ (.int .i64 a)).setCell ⟨w.heap.size, 2, none⟩ (.int .i64 b)) (some w.heap.size) := ⟨rfl, rfl, rfl, by simp, fun k _ hk' => hk k (fun e => hk' (by rw [e]))⟩
  have ho : ∀ {v : Value} {l : List Int}, OwnI wr (w.heap.size + 3) v l → OwnI (((wr.setCell ⟨w.heap.size, 0, none⟩ (.int .i64 x)).setCell ⟨w.heap.size, 1, none⟩ (.int .i64 a)).setCell ⟨w.heap.size, 2, none⟩ (.int .i64 b)) (w.heap.size + 3) v l := fun {v l} h' => h'.kept hgr (by
    cases hv : v.ownBlock with
    | none => exact Or.inl rfl
    | some g => exact Or.inr (fun e => by have := (h'.lt g hv).1; cases e; omega))
  refine ⟨?_, (hk _ (by omega)).trans h.t6, (hk _ (by omega)).trans h.t7, ho h.o1, ho h.o2, ho h.o3, h.a12, h.a13, h.a23, h.below.grown hgr (by omega) (fun k hk => by cases hk; omega)⟩
  simpa using e3
theorem DayRel.mem1 {w7 : World} {o : Obj} (h : DayRel w wr lv a b v1 v2 v3 l1 l2 l3) (hg : (wr.alloc o).grownBy w7 v1.ownBlock) :
    w7.heap[w.heap.size]? = wr.heap[w.heap.size]? ∧ w7.heap[w.heap.size + 1]? = wr.heap[w.heap.size + 1]? ∧ w7.heap[w.heap.size + 2]? = wr.heap[w.heap.size + 2]? ∧ w7.cell? ⟨w.heap.size + 1 + 1, 0, none⟩ = some v1 ∧ w7.frozen? ⟨w.heap.size + 1 + 1, 0, none⟩ = false := by
  have hs := h.size
  have hk : ∀ k, k < w.heap.size + 3 → w7.heap[k]? = wr.heap[k]? := fun k hk => by
    rw [hg.block k (by simp; omega) (fun e => by have := (h.o1.lt k e.symm).1; omega), Below.heap_alloc _ _ _ (by omega)]
  have h7 := (hk (w.heap.size + 2) (by omega)).trans h.t7
  refine ⟨hk _ (by omega), hk _ (by omega), hk _ (by omega), ?_, frozen_of_row w7 _ 0 _ _ h7⟩
  rw [cell_of_row w7 _ _ _ _ (0, 0) h7]; rfl
theorem DayRel.app1 {w7 : World} {o : Obj} {v' : Value} {l' : List Int} (h : DayRel w wr lv a b v1 v2 v3 l1 l2 l3) (hg : (wr.alloc o).grownBy w7 v1.ownBlock) (ho : OwnI w7 (w.heap.size + 3) v' l')
    (hblk : v'.ownBlock = v1.ownBlock ∨ v'.ownBlock = some (wr.alloc o).heap.size) : DayRel w (w7.setCell ⟨w.heap.size + 1 + 1, 0, none⟩ v') lv a b v' v2 v3 l' l2 l3 := by
  have hs := h.size
  obtain ⟨e3, e6, e7, _, _⟩ := h.mem1 hg
  have hgr : w7.grownBy (w7.setCell ⟨w.heap.size + 1 + 1, 0, none⟩ v') (some (w.heap.size + 2)) := ⟨rfl, rfl, rfl, by simp, fun k _ hk => Below.heap_setCell _ _ _ _ (fun e => hk (by rw [e]))⟩
  have hown : ∀ {v : Value} {l : List Int}, OwnI w7 (w.heap.size + 3) v l → OwnI (w7.setCell ⟨w.heap.size + 1 + 1, 0, none⟩ v') (w.heap.size + 3) v l := fun {v l} h' => h'.kept hgr (by
    cases hv : v.ownBlock with
    | none => exact Or.inl rfl
    | some g => exact Or.inr (fun e => by have := (h'.lt g hv).1; cases e; omega))
  have hoth : ∀ {v : Value} {l : List Int}, OwnI wr (w.heap.size + 3) v l → Apart v.ownBlock v1.ownBlock → OwnI w7 (w.heap.size + 3) v l := fun {v l} h' hap => (h'.alloc o).kept hg hap
  have hz : w7.heap.size ≥ wr.heap.size := by have := hg.size; simp at this; omega
  refine ⟨?_, ?_, ?_, hown ho, hown (hoth h.o2 (h.a12.symm)), hown (hoth h.o3 (h.a13.symm)), (h.a12.next hblk (fun g hg => by have := (h.o2.lt g hg).2; simp; omega)), (h.a13.next hblk (fun g hg => by have := (h.o3.lt g hg).2; simp; omega)), h.a23, ?_⟩
  · rw [Below.heap_setCell _ _ _ _ (by simp; omega)]; exact e3.trans h.t3
  · rw [Below.heap_setCell _ _ _ _ (by simp)]; exact e6.trans h.t6
  · have := heap_setCell_same w7 _ 0 _ _ v' (e7.trans h.t7)
    simpa using this
  · exact ((h.below.alloc (by omega) o).grown hg (by simp; omega) (fun k hk => by have := (h.o1.lt k hk).1; omega)).setCell (by simp; omega) _
theorem DayRel.mem2 {w7 : World} {o : Obj} (h : DayRel w wr lv a b v1 v2 v3 l1 l2 l3) (hg : (wr.alloc o).grownBy w7 v2.ownBlock) :
    w7.heap[w.heap.size]? = wr.heap[w.heap.size]? ∧ w7.heap[w.heap.size + 1]? = wr.heap[w.heap.size + 1]? ∧ w7.heap[w.heap.size + 2]? = wr.heap[w.heap.size + 2]? ∧ w7.cell? ⟨w.heap.size + 1 + 1, 1, none⟩ = some v2 ∧ w7.frozen? ⟨w.heap.size + 1 + 1, 1, none⟩ = false := by
  have hs := h.size
  have hk : ∀ k, k < w.heap.size + 3 → w7.heap[k]? = wr.heap[k]? := fun k hk => by
    rw [hg.block k (by simp; omega) (fun e => by have := (h.o2.lt k e.symm).1; omega), Below.heap_alloc _ _ _ (by omega)]
  have h7 := (hk (w.heap.size + 2) (by omega)).trans h.t7
  refine ⟨hk _ (by omega), hk _ (by omega), hk _ (by omega), ?_, frozen_of_row w7 _ 1 _ _ h7⟩
  rw [cell_of_row w7 _ _ _ _ (0, 0) h7]; rfl
theorem DayRel.app2 {w7 : World} {o : Obj} {v' : Value} {l' : List Int} (h : DayRel w wr lv a b v1 v2 v3 l1 l2 l3) (hg : (wr.alloc o).grownBy w7 v2.ownBlock) (ho : OwnI w7 (w.heap.size + 3) v' l')
    (hblk : v'.ownBlock = v2.ownBlock ∨ v'.ownBlock = some (wr.alloc o).heap.size) : DayRel w (w7.setCell ⟨w.heap.size + 1 + 1, 1, none⟩ v') lv a b v1 v' v3 l1 l' l3 := by
  have hs := h.size
  obtain ⟨e3, e6, e7, _, _⟩ := h.mem2 hg
  have hgr : w7.grownBy (w7.setCell ⟨w.heap.size + 1 + 1, 1, none⟩ v') (some (w.heap.size + 2)) := ⟨rfl, rfl, rfl, by simp, fun k _ hk => Below.heap_setCell _ _ _ _ (fun e => hk (by rw [e]))⟩
  have hown : ∀ {v : Value} {l : List Int}, OwnI w7 (w.heap.size + 3) v l → OwnI (w7.setCell ⟨w.heap.size + 1 + 1, 1, none⟩ v') (w.heap.size + 3) v l := fun {v l} h' => h'.kept hgr (by
    cases hv : v.ownBlock with
    | none => exact Or.inl rfl
    | some g => exact Or.inr (fun e => by have := (h'.lt g hv).1; cases e; omega))
  have hoth : ∀ {v : Value} {l : List Int}, OwnI wr (w.heap.size + 3) v l → Apart v.ownBlock v2.ownBlock → OwnI w7 (w.heap.size + 3) v l := fun {v l} h' hap => (h'.alloc o).kept hg hap
  have hz : w7.heap.size ≥ wr.heap.size := by have := hg.size; simp at this; omega
  refine ⟨?_, ?_, ?_, hown (hoth h.o1 (h.a12)), hown ho, hown (hoth h.o3 (h.a23.symm)), (h.a12.symm.next hblk (fun g hg => by have := (h.o1.lt g hg).2; simp; omega)).symm, h.a13, (h.a23.next hblk (fun g hg => by have := (h.o3.lt g hg).2; simp; omega)), ?_⟩
  · rw [Below.heap_setCell _ _ _ _ (by simp; omega)]; exact e3.trans h.t3
  · rw [Below.heap_setCell _ _ _ _ (by simp)]; exact e6.trans h.t6
  · have := heap_setCell_same w7 _ 1 _ _ v' (e7.trans h.t7)
    simpa using this
  · exact ((h.below.alloc (by omega) o).grown hg (by simp; omega) (fun k hk => by have := (h.o2.lt k hk).1; omega)).setCell (by simp; omega) _
theorem DayRel.mem3 {w7 : World} {o : Obj} (h : DayRel w wr lv a b v1 v2 v3 l1 l2 l3) (hg : (wr.alloc o).grownBy w7 v3.ownBlock) :
    w7.heap[w.heap.size]? = wr.heap[w.heap.size]? ∧ w7.heap[w.heap.size + 1]? = wr.heap[w.heap.size + 1]? ∧ w7.heap[w.heap.size + 2]? = wr.heap[w.heap.size + 2]? ∧ w7.cell? ⟨w.heap.size + 1 + 1, 2, none⟩ = some v3 ∧ w7.frozen? ⟨w.heap.size + 1 + 1, 2, none⟩ = false := by
  have hs := h.size
  have hk : ∀ k, k < w.heap.size + 3 → w7.heap[k]? = wr.heap[k]? := fun k hk => by
    rw [hg.block k (by simp; omega) (fun e => by have := (h.o3.lt k e.symm).1; omega), Below.heap_alloc _ _ _ (by omega)]
  have h7 := (hk (w.heap.size + 2) (by omega)).trans h.t7
  refine ⟨hk _ (by omega), hk _ (by omega), hk _ (by omega), ?_, frozen_of_row w7 _ 2 _ _ h7⟩
  rw [cell_of_row w7 _ _ _ _ (0, 0) h7]; rfl
theorem DayRel.app3 {w7 : World} {o : Obj} {v' : Value} {l' : List Int} (h : DayRel w wr lv a b v1 v2 v3 l1 l2 l3) (hg : (wr.alloc o).grownBy w7 v3.ownBlock) (ho : OwnI w7 (w.heap.size + 3) v' l')
    (hblk : v'.ownBlock = v3.ownBlock ∨ v'.ownBlock = some (wr.alloc o).heap.size) : DayRel w (w7.setCell ⟨w.heap.size + 1 + 1, 2, none⟩ v') lv a b v1 v2 v' l1 l2 l' := by
  have hs := h.size
  obtain ⟨e3, e6, e7, _, _⟩ := h.mem3 hg
  have hgr : w7.grownBy (w7.setCell ⟨w.heap.size + 1 + 1, 2, none⟩ v') (some (w.heap.size + 2)) := ⟨rfl, rfl, rfl, by simp, fun k _ hk => Below.heap_setCell _ _ _ _ (fun e => hk (by rw [e]))⟩
  have hown : ∀ {v : Value} {l : List Int}, OwnI w7 (w.heap.size + 3) v l → OwnI (w7.setCell ⟨w.heap.size + 1 + 1, 2, none⟩ v') (w.heap.size + 3) v l := fun {v l} h' => h'.kept hgr (by
    cases hv : v.ownBlock with
    | none => exact Or.inl rfl
    | some g => exact Or.inr (fun e => by have := (h'.lt g hv).1; cases e; omega))
  have hoth : ∀ {v : Value} {l : List Int}, OwnI wr (w.heap.size + 3) v l → Apart v.ownBlock v3.ownBlock → OwnI w7 (w.heap.size + 3) v l := fun {v l} h' hap => (h'.alloc o).kept hg hap
  have hz : w7.heap.size ≥ wr.heap.size := by have := hg.size; simp at this; omega
  refine ⟨?_, ?_, ?_, hown (hoth h.o1 (h.a13)), hown (hoth h.o2 (h.a23)), hown ho, h.a12, (h.a13.symm.next hblk (fun g hg => by have := (h.o1.lt g hg).2; simp; omega)).symm, (h.a23.symm.next hblk (fun g hg => by have := (h.o2.lt g hg).2; simp; omega)).symm, ?_⟩
  · rw [Below.heap_setCell _ _ _ _ (by simp; omega)]; exact e3.trans h.t3
  · rw [Below.heap_setCell _ _ _ _ (by simp)]; exact e6.trans h.t6
  · have := heap_setCell_same w7 _ 2 _ _ v' (e7.trans h.t7)
    simpa using this
  · exact ((h.below.alloc (by omega) o).grown hg (by simp; omega) (fun k hk => by have := (h.o3.lt k hk).1; omega)).setCell (by simp; omega) _
end

set_option maxHeartbeats 4000000 in
theorem i_runTank (lv a b : Int) (p q : Option Addr) (n c d : Nat) (ins outs : List Int) (w : World) (h : IntsAt w p n ins) (h' : IntsAt w q n outs) (hn : n ≤ 1048576)
    (hg : goodTank lv a b = true) (h4 : ∀ x ∈ ins, 0 ≤ x ∧ x ≤ 100) (h5 : ∀ x ∈ outs, 0 ≤ x ∧ x ≤ 100) :
    Calls Try.prog 59 #[.agg #[.int .i64 lv, .int .i64 a, .int .i64 b], .slice p n c, .slice q n d] w fun e w' =>
      ∃ a1 c1 a2 c2 a3 c3, e = .returned (.agg #[.slice a1 n c1, .slice a2 n c2, .slice a3 n c3]) ∧ Below w.heap.size w w' ∧
        OwnI w' w.heap.size (.slice a1 n c1) (levelsOf a b lv ins outs n) ∧ OwnI w' w.heap.size (.slice a2 n c2) (spillsOf a b lv ins outs n) ∧ OwnI w' w.heap.size (.slice a3 n c3) (missOf a b lv ins outs n) := by
  have H := hid h
  have H' := hid h'
  have HG := hid hg
  have H4 := hid h4
  have H5 := hid h5
  clear h h' hg h4 h5
  go_enter Try.func59, Try.ntmps59
  go_wp2
  go_loopg [16] n (fun g i wr => ∃ (k : Nat) (a1 : Option Addr) (c1 : Nat) (a2 : Option Addr) (c2 : Nat) (a3 : Option Addr) (c3 : Nat), k ≤ n ∧ g = n - k ∧ i = .int .i64 k ∧ Hid (DayRel w wr (lvAt a b lv ins outs k) a b (.slice a1 k c1) (.slice a2 k c2) (.slice a3 k c3) (levelsOf a b lv ins outs k) (spillsOf a b lv ins outs k) (missOf a b lv ins outs k)))
  case atStart =>
    exact ⟨0, none, 0, none, 0, none, 0, Nat.zero_le _, by omega, rfl, DayRel.start w lv a b⟩
  case round =>
    obtain ⟨k, a1, c1, a2, c2, a3, c3, hk, rfl, rfl, hh⟩ := hrel
    by_cases hlt : k < n
    · obtain ⟨b1, off, rfl, hbw, hcell⟩ := (H.out.below hh.out.below).2 k hlt
      obtain ⟨b2, off2, rfl, hbw2, hcell2⟩ := (H'.out.below hh.out.below).2 k hlt
      obtain ⟨m0, m1, m2⟩ := hh.out.c3
      have hz := hh.out.size
      have hz0 : w.heap.size < wr.heap.size := by omega
      have HS := hid (fun w => i_stepTank (lvAt a b lv ins outs k) a b (ins[k]?.getD 0) (outs[k]?.getD 0) w (lvAt_good HG.out H4.out H5.out (by have := H.out.1; have := H'.out.1; omega) k (by have := H.out.1; omega)) (inR_iff.2 (H4.out _ (getD_mem ins k (by have := H.out.1; omega)))) (inR_iff.2 (H5.out _ (getD_mem outs k (by have := H'.out.1; omega)))))
      go_upto_region 5 with fail
      go_cut [10, 11, 12] (fun s10 s11 s12 wx => ∃ g : Nat, s10 = .pointer (some ⟨g, 0, none⟩) ∧ s11 = .int .i64 (stSpill b (lvAt a b lv ins outs k) (ins[k]?.getD 0)) ∧ s12 = .int .i64 (stMiss a b (lvAt a b lv ins outs k) (ins[k]?.getD 0) (outs[k]?.getD 0)) ∧ Hid (Below wr.heap.size wr wx ∧ wr.heap.size ≤ g ∧ wx.heap[g]? = some (.cells #[.int .i64 (lvAt a b lv ins outs (k + 1)), .int .i64 a, .int .i64 b] 25 (0, 0))))
      case first =>
        go_region_with (first | (go_at_call 54; refine (HS.out _).mono ?_; rintro e w5 ⟨rfl, hb5⟩; obtain ⟨hc5, hf5⟩ := bcell hb5; have hz5 : wr.heap.size ≤ w5.heap.size := (by have := hb5.size; simp at this; omega); try (have hz6 : wr.heap.size < w5.heap.size := (by have := hb5.size; simp at this; omega))))
        all_goals (go_wp2_with fail; go_meet)
        all_goals refine ⟨_, rfl, rfl, rfl, ?_⟩
        all_goals first
          | exact ⟨(bstep ((Below.refl _ _).drew : Below wr.heap.size wr _) hb5).alloc hz5 _, hz5, heap_alloc_new w5 _⟩
          | (have e5 := hb5.block wr.heap.size (by simp)
             have e6 := heap_alloc_new wr (.cells #[.int .i64 0, .int .i64 0, .int .i64 0] 25)
             refine ⟨(((bstep (((Below.refl _ _).alloc (Nat.le_refl _) _).drew : Below wr.heap.size wr _) hb5).setCell (Nat.le_refl _) _).setCell (Nat.le_refl _) _).setCell (Nat.le_refl _) _, Nat.le_refl _, ?_⟩
             have e7 := heap_setCell_same _ _ 2 _ _ (.int .i64 b) (heap_setCell_same _ _ 1 _ _ (.int .i64 a) (heap_setCell_same w5 _ 0 _ _ (.int .i64 (stLevel a b (lvAt a b lv ins outs k) (ins[k]?.getD 0) (outs[k]?.getD 0))) (e5.trans e6)))
             simpa [lvAt] using e7)
      case rest =>
        obtain ⟨g, rfl, rfl, rfl, hx⟩ := hcut
        have hR := hid (hh.out.more hx.out.1)
        have x0 : wc.cell? ⟨g, 0, none⟩ = some (.int .i64 (lvAt a b lv ins outs (k + 1))) := by rw [cell_of_row wc _ _ _ _ (0, 0) hx.out.2.2]; rfl
        have x1 : wc.cell? ⟨g, 1, none⟩ = some (.int .i64 a) := by rw [cell_of_row wc _ _ _ _ (0, 0) hx.out.2.2]; rfl
        have x2 : wc.cell? ⟨g, 2, none⟩ = some (.int .i64 b) := by rw [cell_of_row wc _ _ _ _ (0, 0) hx.out.2.2]; rfl
        obtain ⟨n0, n1, n2⟩ := hR.out.c3
        obtain ⟨n4, n5, n6⟩ := hR.out.c7
        have f0 := hR.out.f3 0
        have f1 := hR.out.f3 1
        have f2 := hR.out.f3 2
        clear m0 m1 m2 hcell hcell2
        go_upto_region 7 with fail
        have hP := hid (hR.out.put (lvAt a b lv ins outs (k + 1)))
        clear x0 x1 x2 n0 n1 n2 n4 n5 n6 f0 f1 f2 hR hx hz hz0 HS
        revert hP
        generalize (((wc.setCell ⟨w.heap.size, 0, none⟩ (.int .i64 (lvAt a b lv ins outs (k + 1)))).setCell ⟨w.heap.size, 1, none⟩ (.int .i64 a)).setCell ⟨w.heap.size, 2, none⟩ (.int .i64 b)) = wp
        intro hP
        obtain ⟨n0, n1, n2⟩ := hP.out.c3
        obtain ⟨n4, n5, n6⟩ := hP.out.c7
        go_wp2_with (at_builtin; refine wp_append_ints _ rfl _ _ rfl (w.heap.size + 3) _ (levelsOf a b lv ins outs k) rfl (hP.out.o1.alloc _) _ 1 1 [lvAt a b lv ins outs (k + 1)] rfl (IntsAt.single _ _) (k + 1) (by rw [levelsOf_length]) (by omega) (by have := hP.out.size; simp; omega) ?_)
        intro a1' c1' w1 hown1 hgrow1 hblk1
        obtain ⟨_, _, _, y0, y1⟩ := hP.out.mem1 hgrow1
        have hQ := hid (hP.out.app1 hgrow1 hown1 (by simpa using hblk1))
        clear hown1 hgrow1 hblk1 n0 n1 n2 n4 n5 n6
        go_upto_region 8 with fail
        clear y0 y1 hP
        revert hQ
        generalize (w1.setCell ⟨w.heap.size + 1 + 1, 0, none⟩ (.slice a1' (k + 1) c1')) = wq
        intro hQ
        obtain ⟨n0, n1, n2⟩ := hQ.out.c3
        obtain ⟨n4, n5, n6⟩ := hQ.out.c7
        go_wp2_with (at_builtin; refine wp_append_ints _ rfl _ _ rfl (w.heap.size + 3) _ (spillsOf a b lv ins outs k) rfl (hQ.out.o2.alloc _) _ 1 1 [stSpill b (lvAt a b lv ins outs k) (ins[k]?.getD 0)] rfl (IntsAt.single _ _) (k + 1) (by rw [spillsOf_length]) (by omega) (by have := hQ.out.size; simp; omega) ?_)
        intro a2' c2' w2 hown2 hgrow2 hblk2
        obtain ⟨_, _, _, y0, y1⟩ := hQ.out.mem2 hgrow2
        have hR := hid (hQ.out.app2 hgrow2 hown2 (by simpa using hblk2))
        clear hown2 hgrow2 hblk2 n0 n1 n2 n4 n5 n6
        go_upto_region 9 with fail
        clear y0 y1 hQ
        revert hR
        generalize (w2.setCell ⟨w.heap.size + 1 + 1, 1, none⟩ (.slice a2' (k + 1) c2')) = ws
        intro hR
        obtain ⟨n0, n1, n2⟩ := hR.out.c3
        obtain ⟨n4, n5, n6⟩ := hR.out.c7
        go_wp2_with (at_builtin; refine wp_append_ints _ rfl _ _ rfl (w.heap.size + 3) _ (missOf a b lv ins outs k) rfl (hR.out.o3.alloc _) _ 1 1 [stMiss a b (lvAt a b lv ins outs k) (ins[k]?.getD 0) (outs[k]?.getD 0)] rfl (IntsAt.single _ _) (k + 1) (by rw [missOf_length]) (by omega) (by have := hR.out.size; simp; omega) ?_)
        intro a3' c3' w3 hown3 hgrow3 hblk3
        obtain ⟨_, _, _, y0, y1⟩ := hR.out.mem3 hgrow3
        have hS := hid (hR.out.app3 hgrow3 hown3 (by simpa using hblk3))
        clear hown3 hgrow3 hblk3 n0 n1 n2 n4 n5 n6
        go_wp2
        go_roundg (n - (k + 1))
        case measure => omega
        case rel =>
          refine ⟨k + 1, a1', c1', a2', c2', a3', c3', by omega, rfl, by go_num, ?_⟩
          have e := hS.out
          rw [levelsOf_succ, spillsOf_succ, missOf_succ]
          exact e
    · have hkn : k = n := by omega
      subst hkn
      obtain ⟨n4, n5, n6⟩ := hh.out.c7
      obtain ⟨n7, n8, n9⟩ := hh.out.c6
      have f0 := hh.out.f6 0
      have f1 := hh.out.f6 1
      have f2 := hh.out.f6 2
      have hz := hh.out.size
      go_wp2
      refine bodyPost_ret (v := .agg #[.slice a1 k c1, .slice a2 k c2, .slice a3 k c3]) (by simp [results, Try.results59, go_sem, *]) rfl ?_
      obtain ⟨e1, e2, e3, e4⟩ := hh.out.fin (.slice a1 k c1) (.slice a2 k c2) (.slice a3 k c3)
      exact ⟨_, _, _, _, _, _, rfl, e1, e2, e3, e4⟩

end Go.Proofs.Ytbeeonpefmdkeaa
