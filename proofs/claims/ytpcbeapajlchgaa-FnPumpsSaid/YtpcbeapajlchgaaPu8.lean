/-
  Texts of this claim, joined: PumpQ, LitL, LawG.
-/
import Derived.Test.YtpcbeapajlchgaaPu4
import Derived.Test.YtpcbeapajlchgaaPu5
import Derived.Test.YtpcbeapajlchgaaPu6
import Derived.Test.YtpcbeapajlchgaaPu7
/-
  Working points, pumps side by side and in a row: what the answers say of one another (plain), and under one name.
-/
set_option linter.unusedVariables false
set_option linter.unusedSimpArgs false
namespace Go.Proofs.Ytpcbeapajlchgaa
open Go.RowKit

/-- What WorkingPoint and WorkingHead return. -/
noncomputable def pointR (l : List Pt) (lift slope : Int) : Int × Int × Bool := by
  classical
  exact if h : ∃ k, works l l.length lift slope k then (lowN (wkN l (Classical.choose h) lift) (wkD l (Classical.choose h) slope), lowD (wkN l (Classical.choose h) lift) (wkD l (Classical.choose h) slope), true) else (0, 0, false)
noncomputable def wheadR (l : List Pt) (lift slope : Int) : Int × Int × Bool :=
  if (pointR l lift slope).2.2 = true then (lowN (lift * (pointR l lift slope).2.1 + slope * (pointR l lift slope).1) (pointR l lift slope).2.1, lowD (lift * (pointR l lift slope).2.1 + slope * (pointR l lift slope).1) (pointR l lift slope).2.1, true) else (0, 0, false)
theorem pointR_is {l : List Pt} {lift slope : Int} (h : ∃ k, works l l.length lift slope k) : ∃ k, works l l.length lift slope k ∧ pointR l lift slope = (lowN (wkN l k lift) (wkD l k slope), lowD (wkN l k lift) (wkD l k slope), true) := by
  refine ⟨Classical.choose h, Classical.choose_spec h, ?_⟩
  unfold pointR
  rw [dif_pos h]
theorem pointR_not {l : List Pt} {lift slope : Int} (h : ¬ ∃ k, works l l.length lift slope k) : pointR l lift slope = (0, 0, false) := by
  unfold pointR
  rw [dif_neg h]

theorem i_WorkingPoint_one (a : Option Addr) (n c : Nat) (lift slope : Int) (l : List Pt) (w : World) (h : PAt w a n l) (hn : n ≤ 1048576) (x y : Int) (z : Bool) (hR : pointR l lift slope = (x, y, z)) :
    Calls Try.prog 29 #[.slice a n c, .int .i64 lift, .int .i64 slope] w fun e w' => e = .returned (.tuple #[.int .i64 x, .int .i64 y, .bool z]) ∧ Below w.heap.size w w' := by
  have hl := h.1
  subst hl
  by_cases hw : ∃ k, works l l.length lift slope k
  · obtain ⟨k, hk, e⟩ := pointR_is hw
    rw [e] at hR
    simp only [Prod.mk.injEq] at hR
    obtain ⟨rfl, rfl, rfl⟩ := hR
    exact i_WorkingPoint_is a _ c k lift slope l w h hk
  · rw [pointR_not hw] at hR
    simp only [Prod.mk.injEq] at hR
    obtain ⟨rfl, rfl, rfl⟩ := hR
    exact i_WorkingPoint_not a _ c lift slope l w h hn hw
theorem s_WorkingPoint_one (a : Option Addr) (n c : Nat) (lift slope : Int) (l : List Pt) (w : World) (h : PAt w a n l) (hn : n ≤ 1048576) (x y : Int) (z : Bool) (hR : pointR l lift slope = (x, y, z)) :
    Calls Try.prog 28 #[.slice a n c, .int .i64 lift, .int .i64 slope] w fun e w' => e = .returned (.tuple #[.int .i64 x, .int .i64 y, .bool z]) ∧ Below w.heap.size w w' := by
  have hl := h.1
  subst hl
  by_cases hw : ∃ k, works l l.length lift slope k
  · obtain ⟨k, hk, e⟩ := pointR_is hw
    rw [e] at hR
    simp only [Prod.mk.injEq] at hR
    obtain ⟨rfl, rfl, rfl⟩ := hR
    exact s_WorkingPoint_is a _ c k lift slope l w h hk
  · rw [pointR_not hw] at hR
    simp only [Prod.mk.injEq] at hR
    obtain ⟨rfl, rfl, rfl⟩ := hR
    exact s_WorkingPoint_not a _ c lift slope l w h hn hw
theorem i_WorkingHead_one (a : Option Addr) (n c : Nat) (lift slope : Int) (l : List Pt) (w : World) (h : PAt w a n l) (hn : n ≤ 1048576) (x y : Int) (z : Bool) (hR : wheadR l lift slope = (x, y, z)) :
    Calls Try.prog 31 #[.slice a n c, .int .i64 lift, .int .i64 slope] w fun e w' => e = .returned (.tuple #[.int .i64 x, .int .i64 y, .bool z]) ∧ Below w.heap.size w w' := by
  have hl := h.1
  subst hl
  unfold wheadR at hR
  by_cases hw : ∃ k, works l l.length lift slope k
  · obtain ⟨k, hk, e⟩ := pointR_is hw
    rw [e] at hR
    simp only [if_true, Prod.mk.injEq] at hR
    obtain ⟨rfl, rfl, rfl⟩ := hR
    exact i_WorkingHead_is a _ c k lift slope _ _ l w h hk rfl rfl
  · rw [pointR_not hw] at hR
    simp only [Bool.false_eq_true, if_false, Prod.mk.injEq] at hR
    obtain ⟨rfl, rfl, rfl⟩ := hR
    exact i_WorkingHead_not a _ c lift slope l w h hn hw
theorem s_WorkingHead_one (a : Option Addr) (n c : Nat) (lift slope : Int) (l : List Pt) (w : World) (h : PAt w a n l) (hn : n ≤ 1048576) (x y : Int) (z : Bool) (hR : wheadR l lift slope = (x, y, z)) :
    Calls Try.prog 30 #[.slice a n c, .int .i64 lift, .int .i64 slope] w fun e w' => e = .returned (.tuple #[.int .i64 x, .int .i64 y, .bool z]) ∧ Below w.heap.size w w' := by
  have hl := h.1
  subst hl
  unfold wheadR at hR
  by_cases hw : ∃ k, works l l.length lift slope k
  · obtain ⟨k, hk, e⟩ := pointR_is hw
    rw [e] at hR
    simp only [if_true, Prod.mk.injEq] at hR
    obtain ⟨rfl, rfl, rfl⟩ := hR
    exact s_WorkingHead_is a _ c k lift slope _ _ l w h hk rfl rfl
  · rw [pointR_not hw] at hR
    simp only [Bool.false_eq_true, if_false, Prod.mk.injEq] at hR
    obtain ⟨rfl, rfl, rfl⟩ := hR
    exact s_WorkingHead_not a _ c lift slope l w h hn hw

theorem whead_flag {l : List Pt} {lift slope x y p q : Int} {z r : Bool} (h : pointR l lift slope = (x, y, z)) (k : wheadR l lift slope = (p, q, r)) : r = z := by
  unfold wheadR at k
  rw [h] at k
  cases z
  · simp at k; first | exact k.2.2 | exact k.2.2.symm
  · simp at k; first | exact k.2.2 | exact k.2.2.symm
/-- At the working point the curve gives what is needed. -/
theorem point_yes {l : List Pt} {lift slope x y p q : Int} (h : pointR l lift slope = (x, y, true)) (k : wheadR l lift slope = (p, q, true)) :
    ((0 ≤ lift ∧ lift ≤ 1000) ∧ (0 ≤ slope ∧ slope ≤ 1000)) ∧ (-2000000 ≤ x ∧ x ≤ 2000000) ∧ (0 < y ∧ y ≤ 1001000) ∧ (-4000000000 ≤ p ∧ p ≤ 4000000000) ∧ (0 < q ∧ q ≤ 1001000) ∧ p * y = q * (lift * y + slope * x) ∧ (-4000000000 ≤ lift * y + slope * x ∧ lift * y + slope * x ≤ 4000000000) ∧ (-1001000000 ≤ lift * y ∧ lift * y ≤ 1001000000) ∧ (-2000000000 ≤ slope * x ∧ slope * x ≤ 2000000000) ∧ (y = 1 → headR l x = (p, q, true)) := by
  by_cases hw : ∃ k, works l l.length lift slope k
  · obtain ⟨j, hj, hp⟩ := pointR_is hw
    rw [h] at hp
    simp only [Prod.mk.injEq, and_true] at hp
    obtain ⟨hx, hy⟩ := hp
    obtain ⟨b1, b2, b3⟩ := wk_bounds rfl hj
    obtain ⟨hg, r1, r2⟩ := asked_iff hj.1
    have c1 := lowN_fine (a := wkN l j lift) (B := 2000000) b1 b3
    have c2 := lowD_le (a := wkN l j lift) b1
    have c3 := lowD_pos (a := wkN l j lift) b1
    rw [← hx] at c1
    rw [← hy] at c2 c3
    unfold wheadR at k
    rw [h] at k
    simp only [if_true, Prod.mk.injEq, and_true] at k
    obtain ⟨hP, hQ⟩ := k
    have m1 := mul_in (x := lift) (y := y) (A := 1000) (B := 1001000) (by omega) (by omega)
    have m2 := mul_in (x := slope) (y := x) (A := 1000) (B := 2000000) (by omega) (by omega)
    simp only [Int.reduceMul] at m1 m2
    have d1 := lowN_fine (a := lift * y + slope * x) (b := y) (B := 4000000000) c3 (by omega)
    have d2 := lowD_le (a := lift * y + slope * x) c3
    have d3 := lowD_pos (a := lift * y + slope * x) c3
    have d4 := low_eq (a := lift * y + slope * x) c3
    rw [hP] at d1 d4
    rw [hQ] at d2 d3 d4
    refine ⟨⟨r1, r2⟩, c1, ⟨c3, by omega⟩, d1, ⟨d3, by omega⟩, by rw [d4, Int.mul_comm], by omega, by omega, by omega, fun e => ?_⟩
    subst e
    -- the flow is whole: the head is lift + slope * flow
    have hN := low_one b1 hy.symm
    rw [← hx] at hN
    obtain ⟨hs1, hs2, hs3, hs4⟩ := hj.2.2
    have hln := good_len hg rfl
    have p0 := pt_flow hg rfl (k := j - 1) (by omega)
    have p1 := pt_flow hg rfl (k := j) hs2
    have st := pt_lt hg rfl (j := j - 1) (k := j) (by omega) hs2
    have hprev : lift + slope * (pt l (j - 1)).1 ≤ (pt l (j - 1)).2 ∧ (j ≠ 1 → lift + slope * (pt l (j - 1)).1 < (pt l (j - 1)).2) := by
      by_cases e : j = 1
      · subst e
        have h0 := good_first hg
        have hl0 := hj.2.1
        simp only [Nat.sub_self]
        rw [h0]
        simp
        exact hl0
      · have := hs3 (j - 1) (by omega) (by omega)
        simp only [meets] at this
        exact ⟨by omega, fun _ => by omega⟩
    have hme : (pt l j).2 ≤ lift + slope * (pt l j).1 := hs4
    generalize hA : pt l (j - 1) = A at *
    generalize hB : pt l j = B at *
    obtain ⟨A1, A2⟩ := A
    obtain ⟨B1, B2⟩ := B
    simp only [wkN, wkD, hA, hB] at hN b1
    dsimp only at *
    -- x is between the flows
    have k1 : (A2 - lift - slope * A1) * (B1 - A1) = (x - A1) * (slope * (B1 - A1) + (A2 - B2)) := by grind
    have k2 : (lift + slope * B1 - B2) * (B1 - A1) = (B1 - x) * (slope * (B1 - A1) + (A2 - B2)) := by grind
    have x1 : A1 ≤ x := by
      apply Classical.byContradiction
      intro hc
      have h1 : 0 ≤ (A2 - lift - slope * A1) * (B1 - A1) := Int.mul_nonneg (by omega) (by omega)
      have h2 : (x - A1) * (slope * (B1 - A1) + (A2 - B2)) < 0 := Int.mul_neg_of_neg_of_pos (by omega) b1
      omega
    have x2 : x ≤ B1 := by
      apply Classical.byContradiction
      intro hc
      have h1 : 0 ≤ (lift + slope * B1 - B2) * (B1 - A1) := Int.mul_nonneg (by omega) (by omega)
      have h2 : (B1 - x) * (slope * (B1 - A1) + (A2 - B2)) < 0 := Int.mul_neg_of_neg_of_pos (by omega) b1
      omega
    have x3 : j ≠ 1 → A1 < x := fun e => by
      apply Classical.byContradiction
      intro hc
      have ex : x = A1 := by omega
      have h1 : 0 < (A2 - lift - slope * A1) * (B1 - A1) := Int.mul_pos (by have := hprev.2 e; omega) (by omega)
      rw [k1, ex] at h1
      simp at h1
    have hseg : Seg l.length (fun i => x ≤ (pt l i).1) j := by
      refine ⟨hs1, hs2, fun i i1 i2 i3 => ?_, by show x ≤ (pt l j).1; rw [hB]; exact x2⟩
      have hi3 : x ≤ (pt l i).1 := i3
      by_cases e : i = j - 1
      · rw [e, hA] at hi3
        have := x3 (by omega)
        dsimp only at hi3
        omega
      · have h1 := (pt_lt hg rfl (j := i) (k := j - 1) (by omega) (by omega)).1
        rw [hA] at h1
        dsimp only at h1
        omega
    rw [head_seg hg hseg (by omega)]
    have e1 : hdN l j x = (lift * 1 + slope * x) * hdD l j := by
      simp only [hdN, hdD, hA, hB]
      grind
    have hD : 0 < hdD l j := by simp only [hdD, hA, hB]; omega
    rw [e1, (low_exact _ hD).1, (low_exact _ hD).2]
    have e2 := low_exact (D := 1) (lift * 1 + slope * x) (by decide)
    rw [Int.mul_one] at e2
    rw [← hP, ← hQ, e2.1, e2.2]
  · rw [pointR_not hw] at h
    simp at h

/-- One pump, and two that are alike. -/
theorem sum_one (v : Nat → Int × Int) : sumK v 1 = addP (0, 1) (v 0) := rfl
theorem sum_two (v : Nat → Int × Int) : sumK v 2 = addP (addP (0, 1) (v 0)) (v 1) := rfl
theorem twice {y : Int × Int} (hy : 0 < y.2) (hg : gd y.1 y.2 = 1) : (addP y y).1 * y.2 = 2 * y.1 * (addP y y).2 := by
  have h := add_eq hy hy
  have e : y.2 * ((addP y y).1 * y.2) = y.2 * (2 * y.1 * (addP y y).2) := by grind
  exact Int.eq_of_mul_eq_mul_left (by omega) e
theorem flowP_low {l : List Pt} {q : Int} (hg : goodCurve l = true) : gd (flowP l q).1 (flowP l q).2 = 1 := by
  unfold flowP
  split
  · decide
  · split
    · simp [gd]
    · rename_i h1 h2
      have hq : hasH l l.length q = true := inR_iff.2 ⟨by omega, by omega⟩
      have hs := segH_is (seg_head hg rfl hq)
      obtain ⟨k1, k2, -, -⟩ := hs
      obtain ⟨p5, p6⟩ := pt_step hg rfl (k := segH l q) (by omega) (by omega)
      unfold flowR
      rw [if_pos (by rw [hg, hq]; rfl)]
      exact low_low (by unfold flD; omega)
theorem headP_low {l : List Pt} {q : Int} (hg : goodCurve l = true) (hq : hasQ l l.length q = true) : gd (headP l q).1 (headP l q).2 = 1 := by
  have hs := segK_is (seg_flow hg rfl hq)
  obtain ⟨k1, k2, -, -⟩ := hs
  obtain ⟨p5, p6⟩ := pt_step hg rfl (k := segK l l.length q) (by omega) (by omega)
  unfold headP headR
  rw [if_pos (by rw [hg, hq]; rfl)]
  exact low_low (by unfold hdD; omega)
theorem par_yes {L : List (List Pt)} {q x y : Int} (h : parR L q = (x, y, true)) : (1 ≤ L.length ∧ L.length ≤ 4) ∧ ∃ y : Int × Int, small y ∧ parR [lk L 0] q = (y.1, y.2, true) ∧ ∃ z : Int × Int, parR [lk L 0, lk L 0] q = (z.1, z.2, true) ∧ z.1 * y.2 = 2 * y.1 * z.2 ∧ (0 < z.2 ∧ z.2 ≤ 1000000) ∧ (-8000000000 ≤ z.1 ∧ z.1 ≤ 8000000000) := by
  unfold parR at h
  split at h
  · rename_i hc
    simp only [Bool.and_eq_true] at hc
    obtain ⟨⟨c1, c2⟩, c3⟩ := hc
    have hn := inR_iff.1 c1
    have hg := all_get c2 (k := 0) (by omega)
    have hs := flowP_small q hg
    have hl := flowP_low (q := q) hg
    have e1 : ∀ l : List Pt, goodCurve l = true → parR [l] q = ((flowP l q).1, (flowP l q).2, true) := fun l hl => by
      unfold parR
      rw [if_pos (by rw [show inR (([l] : List (List Pt)).length : Int) 1 4 = true from rfl, c3]; simp [hl])]
      show ((addP (0, 1) (flowP l q)).1, (addP (0, 1) (flowP l q)).2, true) = _
      rw [add_first (flowP_low hl)]
    have e2 : parR [lk L 0, lk L 0] q = ((addP (flowP (lk L 0) q) (flowP (lk L 0) q)).1, (addP (flowP (lk L 0) q) (flowP (lk L 0) q)).2, true) := by
      unfold parR
      rw [if_pos (by rw [show inR (([lk L 0, lk L 0] : List (List Pt)).length : Int) 1 4 = true from rfl, c3]; simp [hg])]
      show ((addP (addP (0, 1) (flowP (lk L 0) q)) (flowP (lk L 0) q)).1, (addP (addP (0, 1) (flowP (lk L 0) q)) (flowP (lk L 0) q)).2, true) = _
      rw [add_first hl]
    have hf := (add_fits (k := 1) (x := flowP (lk L 0) q) (y := flowP (lk L 0) q) (by omega) ⟨by simpa using hs.1, by simpa using hs.2⟩ hs).2
    refine ⟨by omega, _, hs, e1 _ hg, _, e2, twice hs.1.1 hl, ?_, ?_⟩
    · simpa using hf.1
    · simpa using hf.2
  · simp at h
theorem series_yes {L : List (List Pt)} {q x y : Int} (h : seriesR L q = (x, y, true)) : (1 ≤ L.length ∧ L.length ≤ 4) ∧ ∃ y : Int × Int, small y ∧ headR (lk L 0) q = (y.1, y.2, true) ∧ ∃ z : Int × Int, seriesR [lk L 0, lk L 0] q = (z.1, z.2, true) ∧ z.1 * y.2 = 2 * y.1 * z.2 ∧ (0 < z.2 ∧ z.2 ≤ 1000000) ∧ (-8000000000 ≤ z.1 ∧ z.1 ≤ 8000000000) := by
  unfold seriesR at h
  split at h
  · rename_i hc
    simp only [Bool.and_eq_true] at hc
    obtain ⟨c1, c2⟩ := hc
    have hn := inR_iff.1 c1
    have h0 := all_get (p := fun l => goodCurve l && hasQ l l.length q) c2 (k := 0) (by omega)
    simp only [Bool.and_eq_true] at h0
    obtain ⟨hg, hq⟩ := h0
    obtain ⟨e1, hs⟩ := headR_ok hg hq
    have hl := headP_low hg hq
    have e2 : seriesR [lk L 0, lk L 0] q = ((addP (headP (lk L 0) q) (headP (lk L 0) q)).1, (addP (headP (lk L 0) q) (headP (lk L 0) q)).2, true) := by
      unfold seriesR
      rw [if_pos (by rw [show inR (([lk L 0, lk L 0] : List (List Pt)).length : Int) 1 4 = true from rfl]; simp [hg, hq])]
      show ((addP (addP (0, 1) (headP (lk L 0) q)) (headP (lk L 0) q)).1, (addP (addP (0, 1) (headP (lk L 0) q)) (headP (lk L 0) q)).2, true) = _
      rw [add_first hl]
    have hf := (add_fits (k := 1) (x := headP (lk L 0) q) (y := headP (lk L 0) q) (by omega) ⟨by simpa using hs.1, by simpa using hs.2⟩ hs).2
    refine ⟨by omega, _, hs, e1, _, e2, twice hs.1.1 hl, ?_, ?_⟩
    · simpa using hf.1
    · simpa using hf.2
  · simp at h

end Go.Proofs.Ytpcbeapajlchgaa

/-
  Short lists of curves, written out.
-/
set_option linter.unusedVariables false
set_option linter.unusedSimpArgs false
namespace Go.Proofs.Ytpcbeapajlchgaa
open Go.RowKit

theorem LAt.one {w : World} {pa : Option Addr} {pn pc : Nat} {l : List Pt} {e : TypeId} (h : PAt w pa pn l) : LAt (w.alloc (.cells #[.slice pa pn pc] e)) (some ⟨w.heap.size, 0, none⟩) 1 [l] := by
  have hb : Below w.heap.size w (w.alloc (.cells #[.slice pa pn pc] e)) := by go_grown
  refine ⟨rfl, [(pa, pn, pc)], ⟨rfl, fun k hk => ⟨w.heap.size, 0, rfl, by simp, fun j hj => ?_⟩⟩, fun k hk => ?_⟩
  · obtain rfl : k = 0 := by omega
    obtain rfl : j = 0 := by omega
    rw [World.cell?_alloc_at _ _ _ _ rfl]; simp [rf]
  · obtain rfl : k = 0 := by omega
    exact SAt.below h hb
theorem LAt.two {w : World} {pa : Option Addr} {pn pc : Nat} {l : List Pt} {e : TypeId} (h : PAt w pa pn l) : LAt (w.alloc (.cells #[.slice pa pn pc, .slice pa pn pc] e)) (some ⟨w.heap.size, 0, none⟩) 2 [l, l] := by
  have hb : Below w.heap.size w (w.alloc (.cells #[.slice pa pn pc, .slice pa pn pc] e)) := by go_grown
  refine ⟨rfl, [(pa, pn, pc), (pa, pn, pc)], ⟨rfl, fun k hk => ⟨w.heap.size, 0, rfl, by simp, fun j hj => ?_⟩⟩, fun k hk => ?_⟩
  · obtain rfl : j = 0 := by omega
    have hk2 : k = 0 ∨ k = 1 := by omega
    rcases hk2 with rfl | rfl <;> (rw [World.cell?_alloc_at _ _ _ _ rfl]; simp [rf])
  · have hk2 : k = 0 ∨ k = 1 := by omega
    rcases hk2 with rfl | rfl <;> exact SAt.below h hb
theorem lens_of {n : Nat} {L : List (List Pt)} (h5 : n ≤ 5) (h7 : ∀ k, k < n → (lk L k).length ≤ 7) : n ≤ 1048576 ∧ ∀ k, k < n → (lk L k).length ≤ 1048576 := ⟨by omega, fun k hk => by have := h7 k hk; omega⟩
theorem lens_one {l : List Pt} (h : l.length ≤ 7) : 1 ≤ 1048576 ∧ ∀ k, k < 1 → (lk [l] k).length ≤ 1048576 := ⟨by omega, fun k hk => by
  obtain rfl : k = 0 := by omega
  show l.length ≤ _
  omega⟩
theorem lens_two {l : List Pt} (h : l.length ≤ 7) : 2 ≤ 1048576 ∧ ∀ k, k < 2 → (lk [l, l] k).length ≤ 1048576 := ⟨by omega, fun k hk => by
  have hk2 : k = 0 ∨ k = 1 := by omega
  rcases hk2 with rfl | rfl <;> (show l.length ≤ _; omega)⟩

end Go.Proofs.Ytpcbeapajlchgaa

/-
  What the laws on codes ask of their own helpers.
-/
set_option linter.unusedVariables false
set_option linter.unusedSimpArgs false
namespace Go.Proofs.Ytpcbeapajlchgaa
open Go.RowKit

theorem l_rBig (a : Option Addr) (n c : Nat) (w : World) : Calls Try.prog 41 #[.slice a n c] w fun e w' => e = .returned (.bool (decide (65536 < n))) ∧ w = w' := by
  go_enter Try.func41, Try.ntmps41
  go_wp2
  go_ret
  exact ⟨ret_bool (by simp <;> omega), rfl⟩

end Go.Proofs.Ytpcbeapajlchgaa

