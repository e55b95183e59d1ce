/-
  Curves: the working point of the program.
-/
import Derived.Test.YtpcbeapajlchgaaCurveP
set_option linter.unusedVariables false
set_option linter.unusedSimpArgs false
namespace Go.Proofs.Ytpcbeapajlchgaa
open Go.RowKit

set_option maxHeartbeats 4000000 in
theorem i_workingPoint_yes (a : Option Addr) (n c k : Nat) (lift slope : Int) (l : List Pt) (w : World) (h : PAt w a n l) (hg : asked l lift slope = true) (hk : Seg n (stops l lift slope) k) :
    Calls Try.prog 67 #[.slice a n c, .int .i64 lift, .int .i64 slope] w fun e w' => e = .returned (.tuple #[.agg #[.int .i64 (lowN (wkN l k lift) (wkD l k slope)), .int .i64 (lowD (wkN l k lift) (wkD l k slope))], .bool true]) ∧ Below w.heap.size w w' := by
  obtain ⟨hg1, hl, hs⟩ := asked_iff hg
  have H := hid h
  have HL := hid h.1
  have HG := hid hg1
  obtain ⟨hk1, hkn, hks, hkp⟩ := hk
  have HK := hid hks
  have HP := hid hkp
  obtain ⟨_, hn6⟩ := good_len hg1 h.1
  obtain ⟨b0, off0, rfl, hbw0, -, -⟩ := PAt.get h 0 (by omega)
  clear h hg hg1 hks hkp
  go_enter Try.func67, Try.ntmps67
  go_wp2
  go_loopg [8] (k - 1) (fun g i wr => ∃ j : Nat, 1 ≤ j ∧ j ≤ k ∧ g = k - j ∧ i = .int .i64 j ∧ Hid (Below w.heap.size w wr) ∧ Hid (wr.heap[w.heap.size]? = some (.cells #[.int .i64 0, .int .i64 0] 74 (0, 0))))
  case atStart => exact ⟨1, by omega, hk1, rfl, rfl, (Below.refl _ _).alloc (Nat.le_refl _) _, heap_alloc_new _ _⟩
  case round =>
    obtain ⟨j, hj1, hjk, rfl, rfl, hB, hT⟩ := hrel
    have hlt' : j - 1 < n := by omega
    obtain ⟨_, _, e1, hbw, x0, x1⟩ := PAt.get (H.out.below hB.out) j (by omega)
    cases e1
    obtain ⟨_, _, e2, _, y0, y1⟩ := PAt.get (H.out.below hB.out) (j - 1) (by omega)
    cases e2
    have hw : IntKind.i64.wrap ((j : Int) - 1) = ((j - 1 : Nat) : Int) := (IntWalk.i64_in _ (by omega)).trans (by omega)
    have hz1 : b0 < wr.heap.size + 1 := by omega
    have hz2 : b0 < wr.heap.size + 1 + 1 := by omega
    have hjn : j < n := by omega
    go_upto_region 4 with fail
    go_cut [9, 10] (fun s6 s7 wx => ∃ g6 g7 : Nat, s6 = .pointer (some ⟨g6, 0, none⟩) ∧ s7 = .pointer (some ⟨g7, 0, none⟩) ∧ Hid (Below wr.heap.size wr wx ∧ wx.heap[g6]? = some (.cells #[.int .i64 (pt l (j - 1)).1, .int .i64 (pt l (j - 1)).2] 52 (0, 0)) ∧ wx.heap[g7]? = some (.cells #[.int .i64 (pt l j).1, .int .i64 (pt l j).2] 52 (0, 0))))
    case first =>
      go_region_with (fail)
      all_goals (go_wp2_with fail; go_meet)
      all_goals first
        | (refine ⟨wr.heap.size, wr.heap.size + 1, rfl, rfl, ?_⟩; obtain ⟨r1, r2, r3⟩ := pair_new wr _ _ wr.heap.size rfl; exact ⟨r1, r2, r3⟩)
        | (refine ⟨wr.heap.size + 1, wr.heap.size, rfl, rfl, ?_⟩; obtain ⟨r1, r2, r3⟩ := pair_new wr _ _ wr.heap.size rfl; exact ⟨r1, r3, r2⟩)
    case rest =>
      obtain ⟨g6, g7, rfl, rfl, hx⟩ := hcut
      clear x0 x1 y0 y1 hz1 hz2 hw hbw hlt'
      obtain ⟨hB2, h6, h7⟩ := hx.out
      have hz6 := (Array.getElem?_eq_some_iff.1 h6).1
      have hz7 := (Array.getElem?_eq_some_iff.1 h7).1
      have m60 := cell_of_row wc _ 0 _ _ (0, 0) h6
      have m61 := cell_of_row wc _ 1 _ _ (0, 0) h6
      have m70 := cell_of_row wc _ 0 _ _ (0, 0) h7
      have m71 := cell_of_row wc _ 1 _ _ (0, 0) h7
      have HC := hid (bstep hB.out hB2 : Below w.heap.size w wc)
      have HB2 := hid hB2
      clear hx h6 h7 hB2
      obtain ⟨p1, p2⟩ := pt_flow HG.out HL.out (k := j - 1) (by omega)
      obtain ⟨p3, p4⟩ := pt_flow HG.out HL.out (k := j) (by omega)
      obtain ⟨p5, p6⟩ := pt_step HG.out HL.out (k := j) (by omega) (by omega)
      have q1 := mul_in (x := slope) (y := (pt l (j - 1)).1) (A := 1000) (B := 1000) (by omega) (by omega)
      have q2 := mul_in (x := slope) (y := (pt l j).1) (A := 1000) (B := 1000) (by omega) (by omega)
      have q3 := mul_in (x := (pt l j).1 - (pt l (j - 1)).1) (y := (pt l (j - 1)).2 - lift) (A := 1000) (B := 1000) (by omega) (by omega)
      have q7 := mul_in (x := (pt l (j - 1)).2 - lift) (y := (pt l j).1 - (pt l (j - 1)).1) (A := 1000) (B := 1000) (by omega) (by omega)
      have q4 := mul_in (x := (pt l (j - 1)).2 - (pt l j).2) (y := (pt l (j - 1)).1) (A := 1000) (B := 1000) (by omega) (by omega)
      have q5 := mul_in (x := slope) (y := (pt l j).1 - (pt l (j - 1)).1) (A := 1000) (B := 1000) (by omega) (by omega)
      have q6 := Int.mul_nonneg (a := slope) (b := (pt l j).1 - (pt l (j - 1)).1) (by omega) (by omega)
      simp only [Int.reduceMul] at q1 q2 q3 q4 q5 q7
      have hz0 := (Array.getElem?_eq_some_iff.1 hT.out).1
      have T0 := hid ((HB2.out.block _ hz0).trans hT.out)
      by_cases hlt : j < k
      · have hns : ¬ (lift + slope * (pt l (j - 1)).1 ≤ (pt l (j - 1)).2 ∧ (pt l j).2 ≤ lift + slope * (pt l j).1) := HK.out j hj1 hlt
        by_cases hf1 : (pt l (j - 1)).2 < lift + slope * (pt l (j - 1)).1
        · go_wp2
          go_roundg (k - (j + 1))
          case rel => exact ⟨j + 1, by omega, by omega, rfl, by go_num, HC.out, T0⟩
          case measure => omega
        · have hf2 : lift + slope * (pt l j).1 < (pt l j).2 := by omega
          clear hns
          go_wp2
          go_roundg (k - (j + 1))
          case rel => exact ⟨j + 1, by omega, by omega, rfl, by go_num, HC.out, T0⟩
          case measure => omega
      · obtain rfl : j = k := by omega
        have hf : ¬ (lift + slope * (pt l j).1 < (pt l j).2) := by have this : lift + slope * (pt l (j - 1)).1 ≤ (pt l (j - 1)).2 ∧ (pt l j).2 ≤ lift + slope * (pt l j).1 := HP.out; omega
        have hf1 : ¬ ((pt l (j - 1)).2 < lift + slope * (pt l (j - 1)).1) := by have this : lift + slope * (pt l (j - 1)).1 ≤ (pt l (j - 1)).2 ∧ (pt l j).2 ≤ lift + slope * (pt l j).1 := HP.out; omega
        go_wp2
        go_quiet (fail)
        go_wp2_with fail
        refine (i_asPart _ _ _ (by omega) (by omega) (by omega)).mono ?_
        rintro e w2 ⟨rfl, hb⟩
        have HD := hid (bstep (below_drewN HC.out _) hb : Below w.heap.size w w2)
        have T2 := hid ((hb.block w.heap.size (Array.getElem?_eq_some_iff.1 T0.out).1).trans T0.out)
        have n0 : w2.cell? ⟨w.heap.size, 0, none⟩ = some (.int .i64 0) := by rw [cell_of_row w2 _ _ _ _ (0, 0) T2.out]; rfl
        have n1 : w2.cell? ⟨w.heap.size, 1, none⟩ = some (.int .i64 0) := by rw [cell_of_row w2 _ _ _ _ (0, 0) T2.out]; rfl
        have f0 := frozen_of_row w2 _ 0 _ _ T2.out
        have f1 := frozen_of_row w2 _ 1 _ _ T2.out
        have hz3 : w.heap.size < w2.heap.size := (Array.getElem?_eq_some_iff.1 T2.out).1
        clear m60 m61 m70 m71 hb
        go_wp2
        have e7 := heap_setCell_same _ _ 1 _ _ (.int .i64 (lowD (wkN l j lift) (wkD l j slope))) (heap_setCell_same w2 _ 0 _ _ (.int .i64 (lowN (wkN l j lift) (wkD l j slope))) T2.out)
        have u0 := cell_of_row _ _ 0 _ _ (0, 0) e7
        have u1 := cell_of_row _ _ 1 _ _ (0, 0) e7
        simp only [wkN, wkD, List.setIfInBounds_toArray, List.set_cons_zero, List.set_cons_succ, List.getElem?_toArray, List.getElem?_cons_zero, List.getElem?_cons_succ] at u0 u1
        refine bodyPost_ret (v := .tuple #[.agg #[.int .i64 (lowN (wkN l j lift) (wkD l j slope)), .int .i64 (lowD (wkN l j lift) (wkD l j slope))], .bool true]) (by simp [results, Try.results67, go_sem, wkN, wkD, *]) rfl ⟨rfl, (HD.out.setCell (Nat.le_refl _) _).setCell (Nat.le_refl _) _⟩

set_option maxHeartbeats 4000000 in
theorem i_workingPoint_no (a : Option Addr) (n c : Nat) (lift slope : Int) (l : List Pt) (w : World) (h : PAt w a n l) (hg : asked l lift slope = true) (hk : ∀ j, 1 ≤ j → j < n → ¬ stops l lift slope j) :
    Calls Try.prog 67 #[.slice a n c, .int .i64 lift, .int .i64 slope] w fun e w' => e = .returned (.tuple #[.agg #[.int .i64 0, .int .i64 0], .bool false]) ∧ Below w.heap.size w w' := by
  obtain ⟨hg1, hl, hs⟩ := asked_iff hg
  have H := hid h
  have HL := hid h.1
  have HG := hid hg1
  have HK := hid hk
  obtain ⟨_, hn6⟩ := good_len hg1 h.1
  obtain ⟨b0, off0, rfl, hbw0, -, -⟩ := PAt.get h 0 (by omega)
  clear h hg hg1 hk
  go_enter Try.func67, Try.ntmps67
  go_wp2
  go_loopg [8] (n - 1) (fun g i wr => ∃ j : Nat, 1 ≤ j ∧ j ≤ n ∧ g = n - j ∧ i = .int .i64 j ∧ Hid (Below w.heap.size w wr) ∧ Hid (wr.heap[w.heap.size]? = some (.cells #[.int .i64 0, .int .i64 0] 74 (0, 0))))
  case atStart => exact ⟨1, by omega, by omega, rfl, rfl, (Below.refl _ _).alloc (Nat.le_refl _) _, heap_alloc_new _ _⟩
  case round =>
    obtain ⟨j, hj1, hjk, rfl, rfl, hB, hT⟩ := hrel
    by_cases hlt : j < n
    · have hlt' : j - 1 < n := by omega
      obtain ⟨_, _, e1, hbw, x0, x1⟩ := PAt.get (H.out.below hB.out) j (by omega)
      cases e1
      obtain ⟨_, _, e2, _, y0, y1⟩ := PAt.get (H.out.below hB.out) (j - 1) (by omega)
      cases e2
      have hw : IntKind.i64.wrap ((j : Int) - 1) = ((j - 1 : Nat) : Int) := (IntWalk.i64_in _ (by omega)).trans (by omega)
      have hz1 : b0 < wr.heap.size + 1 := by omega
      have hz2 : b0 < wr.heap.size + 1 + 1 := by omega
      have hjn : j < n := by omega
      go_upto_region 4 with fail
      go_cut [9, 10] (fun s6 s7 wx => ∃ g6 g7 : Nat, s6 = .pointer (some ⟨g6, 0, none⟩) ∧ s7 = .pointer (some ⟨g7, 0, none⟩) ∧ Hid (Below wr.heap.size wr wx ∧ wx.heap[g6]? = some (.cells #[.int .i64 (pt l (j - 1)).1, .int .i64 (pt l (j - 1)).2] 52 (0, 0)) ∧ wx.heap[g7]? = some (.cells #[.int .i64 (pt l j).1, .int .i64 (pt l j).2] 52 (0, 0))))
      case first =>
        go_region_with (fail)
        all_goals (go_wp2_with fail; go_meet)
        all_goals first
          | (refine ⟨wr.heap.size, wr.heap.size + 1, rfl, rfl, ?_⟩; obtain ⟨r1, r2, r3⟩ := pair_new wr _ _ wr.heap.size rfl; exact ⟨r1, r2, r3⟩)
          | (refine ⟨wr.heap.size + 1, wr.heap.size, rfl, rfl, ?_⟩; obtain ⟨r1, r2, r3⟩ := pair_new wr _ _ wr.heap.size rfl; exact ⟨r1, r3, r2⟩)
      case rest =>
        obtain ⟨g6, g7, rfl, rfl, hx⟩ := hcut
        clear x0 x1 y0 y1 hz1 hz2 hw hbw hlt'
        obtain ⟨hB2, h6, h7⟩ := hx.out
        have hz6 := (Array.getElem?_eq_some_iff.1 h6).1
        have hz7 := (Array.getElem?_eq_some_iff.1 h7).1
        have m60 := cell_of_row wc _ 0 _ _ (0, 0) h6
        have m61 := cell_of_row wc _ 1 _ _ (0, 0) h6
        have m70 := cell_of_row wc _ 0 _ _ (0, 0) h7
        have m71 := cell_of_row wc _ 1 _ _ (0, 0) h7
        have HC := hid (bstep hB.out hB2 : Below w.heap.size w wc)
        have HB2 := hid hB2
        clear hx h6 h7 hB2
        obtain ⟨p1, p2⟩ := pt_flow HG.out HL.out (k := j - 1) (by omega)
        obtain ⟨p3, p4⟩ := pt_flow HG.out HL.out (k := j) (by omega)
        obtain ⟨p5, p6⟩ := pt_step HG.out HL.out (k := j) (by omega) (by omega)
        have q1 := mul_in (x := slope) (y := (pt l (j - 1)).1) (A := 1000) (B := 1000) (by omega) (by omega)
        have q2 := mul_in (x := slope) (y := (pt l j).1) (A := 1000) (B := 1000) (by omega) (by omega)
        have q3 := mul_in (x := (pt l j).1 - (pt l (j - 1)).1) (y := (pt l (j - 1)).2 - lift) (A := 1000) (B := 1000) (by omega) (by omega)
        have q7 := mul_in (x := (pt l (j - 1)).2 - lift) (y := (pt l j).1 - (pt l (j - 1)).1) (A := 1000) (B := 1000) (by omega) (by omega)
        have q4 := mul_in (x := (pt l (j - 1)).2 - (pt l j).2) (y := (pt l (j - 1)).1) (A := 1000) (B := 1000) (by omega) (by omega)
        have q5 := mul_in (x := slope) (y := (pt l j).1 - (pt l (j - 1)).1) (A := 1000) (B := 1000) (by omega) (by omega)
        have q6 := Int.mul_nonneg (a := slope) (b := (pt l j).1 - (pt l (j - 1)).1) (by omega) (by omega)
        simp only [Int.reduceMul] at q1 q2 q3 q4 q5 q7
        have hz0 := (Array.getElem?_eq_some_iff.1 hT.out).1
        have T0 := hid ((HB2.out.block _ hz0).trans hT.out)
        have hns : ¬ (lift + slope * (pt l (j - 1)).1 ≤ (pt l (j - 1)).2 ∧ (pt l j).2 ≤ lift + slope * (pt l j).1) := HK.out j hj1 hlt
        by_cases hf1 : (pt l (j - 1)).2 < lift + slope * (pt l (j - 1)).1
        · go_wp2
          go_roundg (n - (j + 1))
          case rel => exact ⟨j + 1, by omega, by omega, rfl, by go_num, HC.out, T0⟩
          case measure => omega
        · have hf2 : lift + slope * (pt l j).1 < (pt l j).2 := by omega
          clear hns
          go_wp2
          go_roundg (n - (j + 1))
          case rel => exact ⟨j + 1, by omega, by omega, rfl, by go_num, HC.out, T0⟩
          case measure => omega
    · have n0 : wr.cell? ⟨w.heap.size, 0, none⟩ = some (.int .i64 0) := by rw [cell_of_row wr _ _ _ _ (0, 0) hT.out]; rfl
      have n1 : wr.cell? ⟨w.heap.size, 1, none⟩ = some (.int .i64 0) := by rw [cell_of_row wr _ _ _ _ (0, 0) hT.out]; rfl
      have f0 := frozen_of_row wr _ 0 _ _ hT.out
      have f1 := frozen_of_row wr _ 1 _ _ hT.out
      have hz3 : w.heap.size < wr.heap.size := (Array.getElem?_eq_some_iff.1 hT.out).1
      go_wp2
      have e7 := heap_setCell_same _ _ 1 _ _ (.int .i64 0) (heap_setCell_same wr _ 0 _ _ (.int .i64 0) hT.out)
      have u0 := cell_of_row _ _ 0 _ _ (0, 0) e7
      have u1 := cell_of_row _ _ 1 _ _ (0, 0) e7
      simp only [List.setIfInBounds_toArray, List.set_cons_zero, List.set_cons_succ, List.getElem?_toArray, List.getElem?_cons_zero, List.getElem?_cons_succ] at u0 u1
      refine bodyPost_ret (v := .tuple #[.agg #[.int .i64 0, .int .i64 0], .bool false]) (by simp [results, Try.results67, go_sem, *]) rfl ⟨rfl, (hB.out.setCell (Nat.le_refl _) _).setCell (Nat.le_refl _) _⟩

end Go.Proofs.Ytpcbeapajlchgaa
