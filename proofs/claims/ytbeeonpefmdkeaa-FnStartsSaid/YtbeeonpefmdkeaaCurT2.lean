/-
  The draws of days for the laws on starts.
-/
import Derived.Test.YtbeeonpefmdkeaaCurT
import Derived.Test.YtbeeonpefmdkeaaInts
set_option linter.unusedVariables false
set_option linter.unusedSimpArgs false
namespace Go.Proofs.Ytbeeonpefmdkeaa
open Go.RowKit

/-- What a draw of a tank and a day hands back. -/
def DrawnDay (w : World) (e : Ending) (w' : World) : Prop := ∃ (x y z : Int) (a1 a2 : Option Addr) (n1 n2 c1 c2 : Nat) (l1 l2 : List Int), e = .returned (.tuple #[.agg #[.int .i64 x, .int .i64 y, .int .i64 z], .slice a1 n1 c1, .slice a2 n2 c2]) ∧ OwnI w' w.heap.size (.slice a1 n1 c1) l1 ∧ OwnI w' w.heap.size (.slice a2 n2 c2) l2 ∧ n1 ≤ 14 ∧ n2 ≤ 14 ∧ Below w.heap.size w w'

set_option maxHeartbeats 4000000 in
theorem s_DrawRunTankO (a : Option Addr) (n c : Nat) (w : World) (h : BytesAt w a n) : Calls Try.prog 40 #[.slice a n c] w (DrawnDay w) := by
  have H := hid h
  clear h
  go_enter Try.func40, Try.ntmps40
  go_upto_region 2 with fail
  have C0 := hid (Cur.start (c := c) (H.out.below (by go_grown : Below w.heap.size w (w.alloc (.cells #[.int .i64 0, .int .i64 0, .int .i64 0] 25)))) (show w.heap.size + 1 = (w.alloc (.cells #[.int .i64 0, .int .i64 0, .int .i64 0] 25)).heap.size by simp))
  have B0 : Below w.heap.size w ((w.alloc (.cells #[.int .i64 0, .int .i64 0, .int .i64 0] 25)).alloc (.cells #[.slice a n c, .int .i64 0, .int .u64 0] 80)) := by go_grown
  have T0 := mid_new w (.cells #[.int .i64 0, .int .i64 0, .int .i64 0] 25) (.cells #[.slice a n c, .int .i64 0, .int .u64 0] 80) _ rfl
  have hz0 : w.heap.size + 1 < ((w.alloc (.cells #[.int .i64 0, .int .i64 0, .int .i64 0] 25)).alloc (.cells #[.slice a n c, .int .i64 0, .int .u64 0] 80)).heap.size := by simp
  generalize (w.alloc (.cells #[.int .i64 0, .int .i64 0, .int .i64 0] 25)).alloc (.cells #[.slice a n c, .int .i64 0, .int .u64 0] 80) = w0 at *
  go_wp2_with fail
  refine (c_tank (w.heap.size + 1) 0 _ C0.out (by omega)).mono ?_
  rintro e w1 ⟨⟨x, y, z, rfl⟩, hc1, hg1⟩
  have W1 := hid (show Cur (w1.alloc (.cells #[.int .i64 x, .int .i64 y, .int .i64 z] 25)) (w.heap.size + 1) 40 ∧ Below w.heap.size w (w1.alloc (.cells #[.int .i64 x, .int .i64 y, .int .i64 z] 25)) ∧ (w1.alloc (.cells #[.int .i64 x, .int .i64 y, .int .i64 z] 25)).heap[w.heap.size]? = some (.cells #[.int .i64 0, .int .i64 0, .int .i64 0] 25 (0, 0)) ∧ (w1.alloc (.cells #[.int .i64 x, .int .i64 y, .int .i64 z] 25)).heap[w1.heap.size]? = some (.cells #[.int .i64 x, .int .i64 y, .int .i64 z] 25 (0, 0)) from
    ⟨hc1.below (by go_grown), bstep (B0.grown hg1 B0.size (fun k e => by cases e; omega)) (by go_grown), by rw [Below.heap_alloc _ _ _ (by have := hg1.size; omega)]; exact (hg1.block _ (by omega) (by simp <;> omega)).trans T0, heap_alloc_new _ _⟩)
  have hz1 := hg1.size
  have hz1' : w1.heap.size < (w1.alloc (.cells #[.int .i64 x, .int .i64 y, .int .i64 z] 25)).heap.size := by simp
  clear hc1 hg1 B0 T0 C0
  go_upto_region 3 with fail
  generalize w1.alloc (.cells #[.int .i64 x, .int .i64 y, .int .i64 z] 25) = w2 at *
  go_wp2_with fail
  refine (c_day (w.heap.size + 1) 40 _ W1.out.1 (by omega)).mono ?_
  rintro e w3 ⟨⟨a1, a2, n1, n2, c1, c2, l1, l2, rfl, ho1, ho2, h1, h2⟩, hc3, hg3⟩
  have W3 := hid (show OwnI w3 w2.heap.size (.slice a1 n1 c1) l1 ∧ OwnI w3 w2.heap.size (.slice a2 n2 c2) l2 ∧ Below w.heap.size w w3 ∧ w3.heap[w.heap.size]? = some (.cells #[.int .i64 0, .int .i64 0, .int .i64 0] 25 (0, 0)) ∧ w3.heap[w1.heap.size]? = some (.cells #[.int .i64 x, .int .i64 y, .int .i64 z] 25 (0, 0)) from
    ⟨ho1, ho2, W1.out.2.1.grown hg3 W1.out.2.1.size (fun k e => by cases e; omega), (hg3.block _ (by omega) (by simp <;> omega)).trans W1.out.2.2.1, (hg3.block _ hz1' (by simp <;> omega)).trans W1.out.2.2.2⟩)
  have hz3 := hg3.size
  clear ho1 ho2 hc3 hg3 W1
  obtain ⟨m0, m1, m2⟩ := three_of W3.out.2.2.2.2
  obtain ⟨q0, q1, q2⟩ := three_of W3.out.2.2.2.1
  have fa := fun j => frozen_of_row w3 w.heap.size j _ _ W3.out.2.2.2.1
  have hne : ¬ w.heap.size = w1.heap.size := by omega
  have hne2 : ¬ w1.heap.size = w.heap.size := by omega
  have hzz : w.heap.size < w3.heap.size := by omega
  have hzz3 : w1.heap.size < w3.heap.size := by omega
  go_wp2
  refine bodyPost_ret (v := .tuple #[.agg #[.int .i64 x, .int .i64 y, .int .i64 z], .slice a1 n1 c1, .slice a2 n2 c2]) (by simp [results, Try.results40, go_sem, *]) rfl ⟨x, y, z, a1, a2, n1, n2, c1, c2, l1, l2, rfl, ?_, ?_, h1, h2, ?_⟩
  · exact (((W3.out.1.far (by show w.heap.size < _; omega)).far (by show w.heap.size < _; omega)).far (by show w.heap.size < _; omega)).mono (by omega)
  · exact (((W3.out.2.1.far (by show w.heap.size < _; omega)).far (by show w.heap.size < _; omega)).far (by show w.heap.size < _; omega)).mono (by omega)
  · exact ((W3.out.2.2.1.setCell (Nat.le_refl _) _).setCell (Nat.le_refl _) _).setCell (Nat.le_refl _) _

set_option maxHeartbeats 4000000 in
theorem s_DrawFirstMissing (a : Option Addr) (n c : Nat) (w : World) (h : BytesAt w a n) : Calls Try.prog 46 #[.slice a n c] w (DrawnDay w) := by
  have H := hid h
  clear h
  go_enter Try.func46, Try.ntmps46
  have T0 := hid (heap_alloc_new w (.cells #[.int .i64 0, .int .i64 0, .int .i64 0] 25))
  have B0 := hid (by go_grown : Below w.heap.size w (w.alloc (.cells #[.int .i64 0, .int .i64 0, .int .i64 0] 25)))
  have hz0 : (w.alloc (.cells #[.int .i64 0, .int .i64 0, .int .i64 0] 25)).heap.size = w.heap.size + 1 := by simp
  go_upto_region 1 with fail
  generalize w.alloc (.cells #[.int .i64 0, .int .i64 0, .int .i64 0] 25) = w0 at *
  go_wp2_with fail
  refine (s_DrawRunTankO _ _ _ _ (H.out.below B0.out)).mono ?_
  rintro e w1 ⟨x, y, z, a1, a2, n1, n2, c1, c2, l1, l2, rfl, hi1, hi2, h1, h2, hb⟩
  have T1 := hid ((hb.block w.heap.size (by omega)).trans T0.out)
  have B1 := hid (bstep B0.out hb)
  have hz1 := hb.size
  obtain ⟨q0, q1, q2⟩ := three_of T1.out
  have fa := fun j => frozen_of_row w1 w.heap.size j _ _ T1.out
  have hzz : w.heap.size < w1.heap.size := by omega
  have HI1 := hid hi1
  have HI2 := hid hi2
  clear hi1 hi2 hb
  go_wp2
  refine bodyPost_ret (v := .tuple #[.agg #[.int .i64 x, .int .i64 y, .int .i64 z], .slice a1 n1 c1, .slice a2 n2 c2]) (by simp [results, Try.results46, go_sem, *]) rfl ⟨x, y, z, a1, a2, n1, n2, c1, c2, l1, l2, rfl, ?_, ?_, h1, h2, ?_⟩
  · exact (((HI1.out.far (by show w.heap.size < _; omega)).far (by show w.heap.size < _; omega)).far (by show w.heap.size < _; omega)).mono (by omega)
  · exact (((HI2.out.far (by show w.heap.size < _; omega)).far (by show w.heap.size < _; omega)).far (by show w.heap.size < _; omega)).mono (by omega)
  · exact ((B1.out.setCell (Nat.le_refl _) _).setCell (Nat.le_refl _) _).setCell (Nat.le_refl _) _

set_option maxHeartbeats 4000000 in
theorem s_DrawIsCalm (a : Option Addr) (n c : Nat) (w : World) (h : BytesAt w a n) : Calls Try.prog 73 #[.slice a n c] w (DrawnDay w) := by
  have H := hid h
  clear h
  go_enter Try.func73, Try.ntmps73
  go_upto_region 2 with fail
  have C0 := hid (Cur.start (c := c) (H.out.below (by go_grown : Below w.heap.size w (w.alloc (.cells #[.int .i64 0, .int .i64 0, .int .i64 0] 25)))) (show w.heap.size + 1 = (w.alloc (.cells #[.int .i64 0, .int .i64 0, .int .i64 0] 25)).heap.size by simp))
  have B0 : Below w.heap.size w ((w.alloc (.cells #[.int .i64 0, .int .i64 0, .int .i64 0] 25)).alloc (.cells #[.slice a n c, .int .i64 0, .int .u64 0] 80)) := by go_grown
  have T0 := mid_new w (.cells #[.int .i64 0, .int .i64 0, .int .i64 0] 25) (.cells #[.slice a n c, .int .i64 0, .int .u64 0] 80) _ rfl
  have hz0 : w.heap.size + 1 < ((w.alloc (.cells #[.int .i64 0, .int .i64 0, .int .i64 0] 25)).alloc (.cells #[.slice a n c, .int .i64 0, .int .u64 0] 80)).heap.size := by simp
  generalize (w.alloc (.cells #[.int .i64 0, .int .i64 0, .int .i64 0] 25)).alloc (.cells #[.slice a n c, .int .i64 0, .int .u64 0] 80) = w0 at *
  go_wp2_with fail
  refine (c_tank (w.heap.size + 1) 0 _ C0.out (by omega)).mono ?_
  rintro e w1 ⟨⟨x, y, z, rfl⟩, hc1, hg1⟩
  have W1 := hid (show Cur (w1.alloc (.cells #[.int .i64 x, .int .i64 y, .int .i64 z] 25)) (w.heap.size + 1) 40 ∧ Below w.heap.size w (w1.alloc (.cells #[.int .i64 x, .int .i64 y, .int .i64 z] 25)) ∧ (w1.alloc (.cells #[.int .i64 x, .int .i64 y, .int .i64 z] 25)).heap[w.heap.size]? = some (.cells #[.int .i64 0, .int .i64 0, .int .i64 0] 25 (0, 0)) ∧ (w1.alloc (.cells #[.int .i64 x, .int .i64 y, .int .i64 z] 25)).heap[w1.heap.size]? = some (.cells #[.int .i64 x, .int .i64 y, .int .i64 z] 25 (0, 0)) from
    ⟨hc1.below (by go_grown), bstep (B0.grown hg1 B0.size (fun k e => by cases e; omega)) (by go_grown), by rw [Below.heap_alloc _ _ _ (by have := hg1.size; omega)]; exact (hg1.block _ (by omega) (by simp <;> omega)).trans T0, heap_alloc_new _ _⟩)
  have hz1 := hg1.size
  have hz1' : w1.heap.size < (w1.alloc (.cells #[.int .i64 x, .int .i64 y, .int .i64 z] 25)).heap.size := by simp
  clear hc1 hg1 B0 T0 C0
  go_upto_region 3 with fail
  generalize w1.alloc (.cells #[.int .i64 x, .int .i64 y, .int .i64 z] 25) = w2 at *
  go_wp2_with fail
  refine (c_day (w.heap.size + 1) 40 _ W1.out.1 (by omega)).mono ?_
  rintro e w3 ⟨⟨a1, a2, n1, n2, c1, c2, l1, l2, rfl, ho1, ho2, h1, h2⟩, hc3, hg3⟩
  have W3 := hid (show OwnI w3 w2.heap.size (.slice a1 n1 c1) l1 ∧ OwnI w3 w2.heap.size (.slice a2 n2 c2) l2 ∧ Below w.heap.size w w3 ∧ w3.heap[w.heap.size]? = some (.cells #[.int .i64 0, .int .i64 0, .int .i64 0] 25 (0, 0)) ∧ w3.heap[w1.heap.size]? = some (.cells #[.int .i64 x, .int .i64 y, .int .i64 z] 25 (0, 0)) from
    ⟨ho1, ho2, W1.out.2.1.grown hg3 W1.out.2.1.size (fun k e => by cases e; omega), (hg3.block _ (by omega) (by simp <;> omega)).trans W1.out.2.2.1, (hg3.block _ hz1' (by simp <;> omega)).trans W1.out.2.2.2⟩)
  have hz3 := hg3.size
  have HC3 := hid hc3
  clear ho1 ho2 hc3 hg3 W1
  go_wp2_with fail
  refine (c_one (w.heap.size + 1) _ 2 _ HC3.out (by omega) (by omega)).mono ?_
  rintro e w4 ⟨⟨b, rfl⟩, hc4, hg4⟩
  have W4 := hid (show OwnI w4 w2.heap.size (.slice a1 n1 c1) l1 ∧ OwnI w4 w2.heap.size (.slice a2 n2 c2) l2 ∧ Below w.heap.size w w4 ∧ w4.heap[w.heap.size]? = some (.cells #[.int .i64 0, .int .i64 0, .int .i64 0] 25 (0, 0)) ∧ w4.heap[w1.heap.size]? = some (.cells #[.int .i64 x, .int .i64 y, .int .i64 z] 25 (0, 0)) from
    ⟨W3.out.1.kept hg4 (ownI_ne W3.out.1 (by omega)), W3.out.2.1.kept hg4 (ownI_ne W3.out.2.1 (by omega)), W3.out.2.2.1.grown hg4 W3.out.2.2.1.size (fun k e => by cases e; omega), (hg4.block _ (by omega) (by simp <;> omega)).trans W3.out.2.2.2.1, (hg4.block _ (by omega) (by simp <;> omega)).trans W3.out.2.2.2.2⟩)
  have hz4 := hg4.size
  clear hc4 hg4 W3
  obtain ⟨m0, m1, m2⟩ := three_of W4.out.2.2.2.2
  obtain ⟨q0, q1, q2⟩ := three_of W4.out.2.2.2.1
  have fa := fun j => frozen_of_row w4 w.heap.size j _ _ W4.out.2.2.2.1
  have hne : ¬ w.heap.size = w1.heap.size := by omega
  have hne2 : ¬ w1.heap.size = w.heap.size := by omega
  have hzz : w.heap.size < w4.heap.size := by omega
  have hzz3 : w1.heap.size < w4.heap.size := by omega
  cases b
  · go_wp2
    refine bodyPost_ret (v := .tuple #[.agg #[.int .i64 x, .int .i64 y, .int .i64 z], .slice a1 n1 c1, .slice a2 n2 c2]) (by simp [results, Try.results73, go_sem, *]) rfl ⟨x, y, z, a1, a2, n1, n2, c1, c2, l1, l2, rfl, ?_, ?_, h1, h2, ?_⟩
    · exact (((W4.out.1.far (by show w.heap.size < _; omega)).far (by show w.heap.size < _; omega)).far (by show w.heap.size < _; omega)).mono (by omega)
    · exact (((W4.out.2.1.far (by show w.heap.size < _; omega)).far (by show w.heap.size < _; omega)).far (by show w.heap.size < _; omega)).mono (by omega)
    · exact ((W4.out.2.2.1.setCell (Nat.le_refl _) _).setCell (Nat.le_refl _) _).setCell (Nat.le_refl _) _
  · have hz5 : w1.heap.size < w2.heap.size := hz1'
    go_upto_region 5 with fail
    first
      | (go_region_with (go_at_call 82; refine (s_l1Own _ _ _ l1 _ (W4.out.1.at.below (by go_grown)) (by omega)).mono ?_; rintro e w5 ⟨a5, c5, rfl, ho5, hb5⟩; have hbA : Below w4.heap.size w4 w5 := bstep ((Below.refl _ _).drew : Below w4.heap.size w4 w4.drew) hb5; obtain ⟨p0, p1, p2⟩ := three_of ((hbA.block w1.heap.size hzz3).trans W4.out.2.2.2.2); obtain ⟨r0, r1, r2⟩ := three_of ((hbA.block w.heap.size hzz).trans W4.out.2.2.2.1); have fb := (fun j => frozen_of_row w5 w.heap.size j _ _ ((hbA.block w.heap.size hzz).trans W4.out.2.2.2.1)); have hzz5 : w.heap.size < w5.heap.size := (by have := hbA.size; omega); have hzz6 : w1.heap.size < w5.heap.size := (by have := hbA.size; omega)))
      | fail
    all_goals
      have HA := hid hbA
      have HO5 := hid (ho5.mono (B' := w2.heap.size) (by have : w4.drew.heap.size = w4.heap.size := rfl; omega))
      have HO1 := hid (W4.out.1.below hbA)
      clear hbA ho5 hb5
      go_wp2
      refine bodyPost_ret (v := .tuple #[.agg #[.int .i64 x, .int .i64 y, .int .i64 z], .slice a1 n1 c1, .slice a5 n1 c5]) (by simp [results, Try.results73, go_sem, *]) rfl ⟨x, y, z, a1, a5, n1, n1, c1, c5, l1, l1, rfl, ?_, ?_, h1, h1, ?_⟩
      · exact (((HO1.out.far (by show w.heap.size < _; omega)).far (by show w.heap.size < _; omega)).far (by show w.heap.size < _; omega)).mono (by omega)
      · exact (((HO5.out.far (by show w.heap.size < _; omega)).far (by show w.heap.size < _; omega)).far (by show w.heap.size < _; omega)).mono (by omega)
      · exact (((bstep W4.out.2.2.1 HA.out).setCell (Nat.le_refl _) _).setCell (Nat.le_refl _) _).setCell (Nat.le_refl _) _

set_option maxHeartbeats 4000000 in
theorem s_DrawLeastStart (a : Option Addr) (n c : Nat) (w : World) (h : BytesAt w a n) : Calls Try.prog 44 #[.slice a n c] w (DrawnDay w) := by
  have H := hid h
  clear h
  go_enter Try.func44, Try.ntmps44
  have T0 := hid (heap_alloc_new w (.cells #[.int .i64 0, .int .i64 0, .int .i64 0] 25))
  have B0 := hid (by go_grown : Below w.heap.size w (w.alloc (.cells #[.int .i64 0, .int .i64 0, .int .i64 0] 25)))
  have hz0 : (w.alloc (.cells #[.int .i64 0, .int .i64 0, .int .i64 0] 25)).heap.size = w.heap.size + 1 := by simp
  go_upto_region 1 with fail
  generalize w.alloc (.cells #[.int .i64 0, .int .i64 0, .int .i64 0] 25) = w0 at *
  go_wp2_with fail
  refine (s_DrawIsCalm _ _ _ _ (H.out.below B0.out)).mono ?_
  rintro e w1 ⟨x, y, z, a1, a2, n1, n2, c1, c2, l1, l2, rfl, hi1, hi2, h1, h2, hb⟩
  have T1 := hid ((hb.block w.heap.size (by omega)).trans T0.out)
  have B1 := hid (bstep B0.out hb)
  have hz1 := hb.size
  obtain ⟨q0, q1, q2⟩ := three_of T1.out
  have fa := fun j => frozen_of_row w1 w.heap.size j _ _ T1.out
  have hzz : w.heap.size < w1.heap.size := by omega
  have HI1 := hid hi1
  have HI2 := hid hi2
  clear hi1 hi2 hb
  go_wp2
  refine bodyPost_ret (v := .tuple #[.agg #[.int .i64 x, .int .i64 y, .int .i64 z], .slice a1 n1 c1, .slice a2 n2 c2]) (by simp [results, Try.results44, go_sem, *]) rfl ⟨x, y, z, a1, a2, n1, n2, c1, c2, l1, l2, rfl, ?_, ?_, h1, h2, ?_⟩
  · exact (((HI1.out.far (by show w.heap.size < _; omega)).far (by show w.heap.size < _; omega)).far (by show w.heap.size < _; omega)).mono (by omega)
  · exact (((HI2.out.far (by show w.heap.size < _; omega)).far (by show w.heap.size < _; omega)).far (by show w.heap.size < _; omega)).mono (by omega)
  · exact ((B1.out.setCell (Nat.le_refl _) _).setCell (Nat.le_refl _) _).setCell (Nat.le_refl _) _

end Go.Proofs.Ytbeeonpefmdkeaa
