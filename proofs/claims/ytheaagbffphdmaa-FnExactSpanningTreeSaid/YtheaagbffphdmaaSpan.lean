/-
  Spanning trees: the reference's walk, and what both hold while they walk.
-/
import Derived.Test.YtheaagbffphdmaaWithout
import Derived.Test.YtheaagbffphdmaaReached
set_option linter.unusedVariables false
set_option linter.unusedSimpArgs false
namespace Go.Proofs.Ytheaagbffphdmaa
open Go.RowKit

theorem heap_alloc_old {W : World} {x y : Obj} {g : Nat} (h : W.heap[g]? = some y) : (W.alloc x).heap[g]? = some y := (Below.heap_alloc _ _ _ (Array.getElem?_eq_some_iff.1 h).1).trans h

structure SpIn (w : World) (M : Nat) (a : Option Addr) (n c : Nat) (l : List Pip) (B0 R Bs X k : Nat) (a' : Option Addr) (m c' : Nat) (wr : World) : Prop where
  arg : wr.heap[B0]? = some (.cells #[.int .i64 M, .slice a n c] 31 (0, 0))
  res : wr.heap[R]? = some (.cells #[.int .i64 0, .slice none 0 0] 31 (0, 0))
  box : wr.heap[X]? = some (.cells #[.int .i64 M, .slice a' m c'] 31 (0, 0))
  own : OwnQ wr Bs (.slice a' m c') (span l k)
  ne : Value.ownBlock (.slice a' m c') ≠ some X
  bel : Below w.heap.size w wr
  lo : w.heap.size ≤ B0 ∧ B0 < Bs ∧ w.heap.size ≤ R ∧ R < Bs ∧ Bs ≤ X
section
variable {w : World} {M : Nat} {a : Option Addr} {n c : Nat} {l : List Pip} {B0 R Bs X k : Nat} {a' : Option Addr} {m c' : Nat} {wr wx : World}
theorem SpIn.lt (h : SpIn w M a n c l B0 R Bs X k a' m c' wr) : B0 < wr.heap.size ∧ R < wr.heap.size ∧ X < wr.heap.size :=
  ⟨(Array.getElem?_eq_some_iff.1 h.arg).1, (Array.getElem?_eq_some_iff.1 h.res).1, (Array.getElem?_eq_some_iff.1 h.box).1⟩
theorem SpIn.below (h : SpIn w M a n c l B0 R Bs X k a' m c' wr) (hb : Below wr.heap.size wr wx) : SpIn w M a n c l B0 R Bs X k a' m c' wx :=
  ⟨(hb.block _ h.lt.1).trans h.arg, (hb.block _ h.lt.2.1).trans h.res, (hb.block _ h.lt.2.2).trans h.box, OwnS.below h.own hb, h.ne, bstep h.bel hb, h.lo⟩
theorem SpIn.skip (h : SpIn w M a n c l B0 R Bs X k a' m c' wr) (hs : span l (k + 1) = span l k) : SpIn w M a n c l B0 R Bs X (k + 1) a' m c' wr :=
  ⟨h.arg, h.res, h.box, by rw [hs]; exact h.own, h.ne, h.bel, h.lo⟩
theorem SpIn.put (h : SpIn w M a n c l B0 R Bs X k a' m c' wr) (hb : Below wr.heap.size wr wx) {w2 : World} (hg : wx.grownBy w2 (Value.ownBlock (.slice a' m c'))) {a2 : Option Addr} {c2 : Nat} (ho : OwnQ w2 Bs (.slice a2 (m + 1) c2) (span l k ++ [pp l k])) (hblk : Value.ownBlock (.slice a2 (m + 1) c2) = Value.ownBlock (.slice a' m c') ∨ Value.ownBlock (.slice a2 (m + 1) c2) = some wx.heap.size) (hs : span l (k + 1) = span l k ++ [pp l k]) :
    SpIn w M a n c l B0 R Bs X (k + 1) a2 (m + 1) c2 (w2.setCell ⟨X, 1, none⟩ (.slice a2 (m + 1) c2)) := by
  have hx := h.below hb
  have hlt := hx.lt
  obtain ⟨l1, l2, l3, l4, l5⟩ := h.lo
  have hown := fun q hq => (OwnS.lt hx.own q hq).1
  have hbx := (hg.block X hlt.2.2 (fun e => hx.ne e.symm)).trans hx.box
  refine ⟨other_cell ((hg.block B0 hlt.1 (fun e => by have := hown _ e.symm; omega)).trans hx.arg) (by omega), other_cell ((hg.block R hlt.2.1 (fun e => by have := hown _ e.symm; omega)).trans hx.res) (by omega), ?_, ?_, ?_, ?_, h.lo⟩
  · have := heap_setCell_same w2 X 1 _ _ (.slice a2 (m + 1) c2) hbx
    simpa using this
  · rw [hs]
    refine OwnS.kept ho (grown_setCell w2 X 1 _) (.inr ?_)
    rcases hblk with e | e
    · rw [e]; exact h.ne
    · rw [e]; intro e2; have := Option.some.inj e2; omega
  · rcases hblk with e | e
    · rw [e]; exact h.ne
    · rw [e]; intro e2; have := Option.some.inj e2; omega
  · exact (hx.bel.grown hg hx.bel.size (fun q hq => by have := hown _ hq; omega)).setCell (by show w.heap.size ≤ X; omega) _
theorem SpIn.start (hA : wr.heap[B0]? = some (.cells #[.int .i64 M, .slice a n c] 31 (0, 0))) (hR : wr.heap[R]? = some (.cells #[.int .i64 0, .slice none 0 0] 31 (0, 0))) (hX : wr.heap[X]? = some (.cells #[.int .i64 M, .slice (some ⟨Bs, 0, none⟩) 0 0] 31 (0, 0))) (ho : OwnQ wr Bs (.slice (some ⟨Bs, 0, none⟩) 0 0) []) (hb : Below w.heap.size w wr) (hlo : w.heap.size ≤ B0 ∧ B0 < Bs ∧ w.heap.size ≤ R ∧ R < Bs ∧ Bs < X) :
    SpIn w M a n c l B0 R Bs X 0 (some ⟨Bs, 0, none⟩) 0 0 wr :=
  ⟨hA, hR, hX, ho, by simp [Value.ownBlock]; omega, hb, ⟨hlo.1, hlo.2.1, hlo.2.2.1, hlo.2.2.2.1, Nat.le_of_lt hlo.2.2.2.2⟩⟩
end
theorem span_to {M : Nat} {l : List Pip} {k : Nat} (hg : goodNet M l = true) (hk : k < l.length) (h : 0 ≤ far (span l k) 0 (pp l k).2.1 (pp l k).2.2.1) : decide ((pp l k).2.2.1 ∈ reachL M (span l k) 0 (pp l k).2.1) = true := by
  have := goodNet_pipe hg hk
  simp only [decide_eq_true_eq]
  exact (to_reached this.2.2.1).2 h
theorem span_nto {M : Nat} {l : List Pip} {k : Nat} (hg : goodNet M l = true) (hk : k < l.length) (h : ¬ 0 ≤ far (span l k) 0 (pp l k).2.1 (pp l k).2.2.1) : decide ((pp l k).2.2.1 ∈ reachL M (span l k) 0 (pp l k).2.1) = false := by
  have := goodNet_pipe hg hk
  simp only [decide_eq_false_iff_not]
  exact fun h2 => h ((to_reached this.2.2.1).1 h2)

set_option maxRecDepth 100000 in
set_option maxHeartbeats 4000000 in
theorem s_l8Spanning (M : Nat) (a : Option Addr) (n c : Nat) (l : List Pip) (w : World) (h : QAt w a n l) (hg : goodNet M l = true) :
    Calls Try.prog 89 #[.agg #[.int .i64 M, .slice a n c]] w fun e w' => ∃ a' m c', e = .returned (.agg #[.int .i64 M, .slice a' m c']) ∧ OwnQ w' w.heap.size (.slice a' m c') (span l n) ∧ Below w.heap.size w w' := by
  have hM : M ≤ 8 := by have := (goodNet_get hg).1; omega
  have hn : n ≤ 10 := by have := (goodNet_get hg).2.1; have := h.1; omega
  have HLN := hid h.1
  have H := hid h
  have HG := hid hg
  clear h hg
  go_enter Try.func89, Try.ntmps89
  go_wp2
  go_loopg [4] n (fun g i wr => ∃ (k : Nat) (a' : Option Addr) (m c' : Nat), k ≤ n ∧ g = n - k ∧ i = .int .i64 k ∧ Hid (SpIn w M a n c l w.heap.size (w.heap.size + 1) (w.heap.size + 2) (w.heap.size + 3) k a' m c' wr))
  case atStart =>
    refine ⟨0, _, 0, 0, Nat.zero_le _, rfl, rfl, hid (SpIn.start ?_ ?_ ?_ ?_ ?_ ⟨by omega, by omega, by omega, by omega, by omega⟩)⟩
    · exact heap_alloc_old (heap_alloc_old (heap_alloc_old (last_new _ _ _ rfl)))
    · exact heap_alloc_old (heap_alloc_old (last_new _ _ _ (by simp)))
    · exact last_new _ _ _ (by simp)
    · exact OwnS.alloc (OwnS.lit0' (by simp)) _
    · go_grown
  case round =>
    obtain ⟨k, a', m, c', hk, rfl, rfl, hh⟩ := hrel
    have hlt0 := hh.out.lt
    by_cases hlt : k < n
    · obtain ⟨b0, off0, rfl, hbw, x0, x1, x2, x3⟩ := QAt.get (H.out.below hh.out.bel) k hlt
      have hkl : k < l.length := by have := HLN.out; omega
      have m1 : wr.cell? ⟨w.heap.size, 1, none⟩ = some (.slice (some ⟨b0, off0, none⟩) n c) := by rw [cell_of_row wr _ _ _ _ (0, 0) hh.out.arg]; rfl
      have o0 : wr.cell? ⟨w.heap.size + 3, 0, none⟩ = some (.int .i64 M) := by rw [cell_of_row wr _ _ _ _ (0, 0) hh.out.box]; rfl
      have o1 : wr.cell? ⟨w.heap.size + 3, 1, none⟩ = some (.slice a' m c') := by rw [cell_of_row wr _ _ _ _ (0, 0) hh.out.box]; rfl
      have HP := hid (goodNet_pipe HG.out hkl)
      have HGS := hid (span_good HG.out (k := k) (by omega))
      have hm : m ≤ 10 := by
        have h1 := span_len l (k := k) (by omega)
        have h2 := OwnS.len hh.out.own
        omega
      by_cases hp : 0 ≤ far (span l k) 0 (pp l k).2.1 (pp l k).2.2.1
      · have E := hid (span_yes hp)
        have FT := hid (span_to HG.out hkl hp)
        clear hp hkl
        go_upto_region 5 with fail
        have q0 : ∀ wy w5 : World, Below wy.heap.size wy w5 → (wy.cell? ⟨w.heap.size, 1, none⟩ = some (.slice (some ⟨b0, off0, none⟩) n c) ∧ wy.cell? ⟨w.heap.size + 3, 0, none⟩ = some (.int .i64 M) ∧ wy.cell? ⟨w.heap.size + 3, 1, none⟩ = some (.slice a' m c') ∧ wy.cell? ⟨b0, off0 + k * 4 + 1, none⟩ = some (.int .i64 (pp l k).2.1) ∧ wy.cell? ⟨b0, off0 + k * 4 + 2, none⟩ = some (.int .i64 (pp l k).2.2.1)) → (w5.cell? ⟨w.heap.size, 1, none⟩ = some (.slice (some ⟨b0, off0, none⟩) n c) ∧ w5.cell? ⟨w.heap.size + 3, 0, none⟩ = some (.int .i64 M) ∧ w5.cell? ⟨w.heap.size + 3, 1, none⟩ = some (.slice a' m c') ∧ w5.cell? ⟨b0, off0 + k * 4 + 1, none⟩ = some (.int .i64 (pp l k).2.1) ∧ w5.cell? ⟨b0, off0 + k * 4 + 2, none⟩ = some (.int .i64 (pp l k).2.2.1)) :=
          fun wy w5 hb ⟨z0, z1, z2, z3, z4⟩ => ⟨(hb.cell (World.block_lt_of_cell? wy _ z0)).trans z0, (hb.cell (World.block_lt_of_cell? wy _ z1)).trans z1, (hb.cell (World.block_lt_of_cell? wy _ z2)).trans z2, (hb.cell (World.block_lt_of_cell? wy _ z3)).trans z3, (hb.cell (World.block_lt_of_cell? wy _ z4)).trans z4⟩
        have Q0 := hid q0
        clear q0
        go_region_held3 (fun w' => (w'.cell? ⟨w.heap.size, 1, none⟩ = some (.slice (some ⟨b0, off0, none⟩) n c) ∧ w'.cell? ⟨w.heap.size + 3, 0, none⟩ = some (.int .i64 M) ∧ w'.cell? ⟨w.heap.size + 3, 1, none⟩ = some (.slice a' m c') ∧ w'.cell? ⟨b0, off0 + k * 4 + 1, none⟩ = some (.int .i64 (pp l k).2.1) ∧ w'.cell? ⟨b0, off0 + k * 4 + 2, none⟩ = some (.int .i64 (pp l k).2.2.1))) (first | go_keep | exact Q0.out _ _ (by assumption) (by first | assumption | (refine ⟨?_, ?_, ?_, ?_, ?_⟩ <;> assumption) | simp [*]))
          (first | (go_at_call 88; refine (s_l2Reached M (pp l k).2.1 _ _ _ (span l k) _ ((OwnS.at qf_len hh.out.own).below (by go_grown)) HGS.out HP.out.2.1).mono ?_; rintro e w5 ⟨g5, c5, rfl, ho5, hb5⟩; obtain ⟨hc5, hf5⟩ := bcell hb5) | (go_at_call 105; refine (s_l1Has_is _ _ _ _ _ _ ho5.at (by have := reachL_len (N := (M : Int)) (l := span l k) (wo := 0) (s := (pp l k).2.1); omega) _ FT.out).mono ?_; rintro e _ ⟨rfl, rfl⟩))
        have HS := hid (hh.out.below (bstep (by go_grown : Below wr.heap.size wr wr.drew) hb5))
        clear hb5 ho5 hc5 hf5
        go_wp2
        go_roundg (n - (k + 1))
        case rel => exact ⟨k + 1, a', m, c', by omega, rfl, by go_num, hid (HS.out.skip E.out)⟩
        case measure => omega
      · have E := hid (span_no hp)
        have FT := hid (span_nto HG.out hkl hp)
        clear hp hkl
        go_upto_region 5 with fail
        have q0 : ∀ wy w5 : World, Below wy.heap.size wy w5 → (wy.cell? ⟨w.heap.size, 1, none⟩ = some (.slice (some ⟨b0, off0, none⟩) n c) ∧ wy.cell? ⟨w.heap.size + 3, 0, none⟩ = some (.int .i64 M) ∧ wy.cell? ⟨w.heap.size + 3, 1, none⟩ = some (.slice a' m c') ∧ wy.cell? ⟨b0, off0 + k * 4 + 1, none⟩ = some (.int .i64 (pp l k).2.1) ∧ wy.cell? ⟨b0, off0 + k * 4 + 2, none⟩ = some (.int .i64 (pp l k).2.2.1)) → (w5.cell? ⟨w.heap.size, 1, none⟩ = some (.slice (some ⟨b0, off0, none⟩) n c) ∧ w5.cell? ⟨w.heap.size + 3, 0, none⟩ = some (.int .i64 M) ∧ w5.cell? ⟨w.heap.size + 3, 1, none⟩ = some (.slice a' m c') ∧ w5.cell? ⟨b0, off0 + k * 4 + 1, none⟩ = some (.int .i64 (pp l k).2.1) ∧ w5.cell? ⟨b0, off0 + k * 4 + 2, none⟩ = some (.int .i64 (pp l k).2.2.1)) :=
          fun wy w5 hb ⟨z0, z1, z2, z3, z4⟩ => ⟨(hb.cell (World.block_lt_of_cell? wy _ z0)).trans z0, (hb.cell (World.block_lt_of_cell? wy _ z1)).trans z1, (hb.cell (World.block_lt_of_cell? wy _ z2)).trans z2, (hb.cell (World.block_lt_of_cell? wy _ z3)).trans z3, (hb.cell (World.block_lt_of_cell? wy _ z4)).trans z4⟩
        have Q0 := hid q0
        clear q0
        go_region_held3 (fun w' => (w'.cell? ⟨w.heap.size, 1, none⟩ = some (.slice (some ⟨b0, off0, none⟩) n c) ∧ w'.cell? ⟨w.heap.size + 3, 0, none⟩ = some (.int .i64 M) ∧ w'.cell? ⟨w.heap.size + 3, 1, none⟩ = some (.slice a' m c') ∧ w'.cell? ⟨b0, off0 + k * 4 + 1, none⟩ = some (.int .i64 (pp l k).2.1) ∧ w'.cell? ⟨b0, off0 + k * 4 + 2, none⟩ = some (.int .i64 (pp l k).2.2.1))) (first | go_keep | exact Q0.out _ _ (by assumption) (by first | assumption | (refine ⟨?_, ?_, ?_, ?_, ?_⟩ <;> assumption) | simp [*]))
          (first | (go_at_call 88; refine (s_l2Reached M (pp l k).2.1 _ _ _ (span l k) _ ((OwnS.at qf_len hh.out.own).below (by go_grown)) HGS.out HP.out.2.1).mono ?_; rintro e w5 ⟨g5, c5, rfl, ho5, hb5⟩; obtain ⟨hc5, hf5⟩ := bcell hb5) | (go_at_call 105; refine (s_l1Has_is _ _ _ _ _ _ ho5.at (by have := reachL_len (N := (M : Int)) (l := span l k) (wo := 0) (s := (pp l k).2.1); omega) _ FT.out).mono ?_; rintro e _ ⟨rfl, rfl⟩))
        have HS := hid (hh.out.below (bstep (by go_grown : Below wr.heap.size wr wr.drew) hb5))
        clear hb5 ho5 hc5 hf5
        clear m1 o0 o1 x0 x1 x2 x3 hbw hlt0
        obtain ⟨_, _, e1, hbw, x0, x1, x2, x3⟩ := QAt.get (H.out.below HS.out.bel) k hlt
        cases e1
        have hlt0 := HS.out.lt
        have m1 : w5.cell? ⟨w.heap.size, 1, none⟩ = some (.slice (some ⟨b0, off0, none⟩) n c) := by rw [cell_of_row w5 _ _ _ _ (0, 0) HS.out.arg]; rfl
        have o1 : w5.cell? ⟨w.heap.size + 3, 1, none⟩ = some (.slice a' m c') := by rw [cell_of_row w5 _ _ _ _ (0, 0) HS.out.box]; rfl
        have f1 := frozen_of_row w5 _ 1 _ _ HS.out.box
        have hml := OwnS.len HS.out.own
        have HML := hid hml
        clear hml
        go_upto_region 6 with fail
        go_region_law (refine step_append_q (by rfl) _ _ (by rfl) (w.heap.size + 2) _ (span l k) (by rfl) (by exact OwnS.drew' (OwnS.alloc HS.out.own _)) _ 1 _ [pp l k] (by rfl) (by exact SAt.single _ _ qf_len) (m + 1) (by have := HML.out; omega) (by omega) (by have := HS.out.lo; have := HS.out.lt; simp <;> omega) ?_; intro a2 c2 w2 hown hgrow hblk; have y6 := (hgrow.cell_far ⟨w.heap.size + 3, 1, none⟩ (by simp; omega) (Ne.symm HS.out.ne)); have g6 := (hgrow.frozen_far ⟨w.heap.size + 3, 1, none⟩ (by simp; omega) (Ne.symm HS.out.ne)))
        all_goals
          have HQ := hid (HS.out.put (by go_grown) hgrow hown hblk E.out)
          clear hown hgrow hblk y6 g6 f1 m1 o1 x0 x1 x2 x3
          go_wp2
          go_roundg (n - (k + 1))
          case rel => exact ⟨k + 1, _, _, _, by omega, rfl, by go_num, HQ⟩
          case measure => omega
    · obtain rfl : k = n := by omega
      have o0 : wr.cell? ⟨w.heap.size + 3, 0, none⟩ = some (.int .i64 M) := by rw [cell_of_row wr _ _ _ _ (0, 0) hh.out.box]; rfl
      have o1 : wr.cell? ⟨w.heap.size + 3, 1, none⟩ = some (.slice a' m c') := by rw [cell_of_row wr _ _ _ _ (0, 0) hh.out.box]; rfl
      have m1 : wr.cell? ⟨w.heap.size, 1, none⟩ = some (.slice a k c) := by rw [cell_of_row wr _ _ _ _ (0, 0) hh.out.arg]; rfl
      have y0 : wr.cell? ⟨w.heap.size + 1, 0, none⟩ = some (.int .i64 0) := by rw [cell_of_row wr _ _ _ _ (0, 0) hh.out.res]; rfl
      have y1 : wr.cell? ⟨w.heap.size + 1, 1, none⟩ = some (.slice none 0 0) := by rw [cell_of_row wr _ _ _ _ (0, 0) hh.out.res]; rfl
      have f0 := frozen_of_row wr _ 0 _ _ hh.out.res
      have f1 := frozen_of_row wr _ 1 _ _ hh.out.res
      have e7 := heap_setCell_same _ _ 1 _ _ (.slice a' m c') (heap_setCell_same _ _ 0 _ _ (.int .i64 M) hh.out.res)
      have u0 := cell_of_row _ _ 0 _ _ (0, 0) e7
      have u1 := cell_of_row _ _ 1 _ _ (0, 0) e7
      simp only [List.setIfInBounds_toArray, List.set_cons_zero, List.set_cons_succ, List.getElem?_toArray, List.getElem?_cons_zero, List.getElem?_cons_succ] at u0 u1
      clear e7
      go_wp2
      refine bodyPost_ret (v := .agg #[.int .i64 M, .slice a' m c']) (by simp [results, Try.results89, go_sem, *]) rfl ⟨_, _, _, rfl, ?_, ?_⟩
      · exact ((hh.out.own.far (by omega)).far (by omega)).mono (by omega)
      · exact ((hh.out.bel).setCell (by show w.heap.size ≤ w.heap.size + 1; omega) _).setCell (by show w.heap.size ≤ w.heap.size + 1; omega) _

end Go.Proofs.Ytheaagbffphdmaa
