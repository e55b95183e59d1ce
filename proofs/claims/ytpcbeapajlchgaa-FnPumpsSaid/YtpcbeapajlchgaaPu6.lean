/-
  Texts of this claim, joined: CurveP, CurvePs, CurvePi, CurveP2, TakeH, LastH.
-/
import Derived.Test.YtpcbeapajlchgaaPu1
import Derived.Test.YtpcbeapajlchgaaPu4
/-
  Curves: the working point.
-/
set_option linter.unusedVariables false
set_option linter.unusedSimpArgs false
namespace Go.Proofs.Ytpcbeapajlchgaa
open Go.RowKit

/-- Whether a curve, a lift and a slope are asked for. -/
def asked (l : List Pt) (lift slope : Int) : Bool := goodCurve l && inR lift 0 1000 && inR slope 0 1000
theorem asked_iff {l : List Pt} {lift slope : Int} (h : asked l lift slope = true) : goodCurve l = true ∧ (0 ≤ lift ∧ lift ≤ 1000) ∧ (0 ≤ slope ∧ slope ≤ 1000) := by
  simp only [asked, Bool.and_eq_true] at h
  exact ⟨h.1.1, inR_iff.1 h.1.2, inR_iff.1 h.2⟩

theorem i_canWork (a : Option Addr) (n c : Nat) (l : List Pt) (lift slope : Int) (w : World) (h : PAt w a n l) (hn : n ≤ 1048576) :
    Calls Try.prog 66 #[.slice a n c, .int .i64 lift, .int .i64 slope] w fun e w' => e = .returned (.bool (asked l lift slope)) ∧ Below w.heap.size w w' := by
  have H := hid h
  clear h
  cases h1 : goodCurve l
  · have E := hid (show false = asked l lift slope by simp [asked, h1])
    have HG := hid h1
    clear h1
    go_enter Try.func66, Try.ntmps66
    go_wp2_with fail
    refine (i_IsValidCurve _ _ _ l _ H.out (by omega)).mono ?_
    rintro e w1 ⟨rfl, hb1⟩
    rw [HG.out]
    go_wp2
    go_ret
    exact ⟨ret_bool E.out, hb1⟩
  · cases h2 : inR lift 0 1000
    · have E := hid (show false = asked l lift slope by simp [asked, h1, h2])
      have HG := hid h1
      have H2 := hid h2
      clear h1 h2
      go_enter Try.func66, Try.ntmps66
      go_wp2_with fail
      refine (i_IsValidCurve _ _ _ l _ H.out (by omega)).mono ?_
      rintro e w1 ⟨rfl, hb1⟩
      rw [HG.out]
      go_wp2_with fail
      refine (i_isCurveValue _ _).mono ?_
      rintro e _ ⟨rfl, rfl⟩
      rw [H2.out]
      go_wp2
      go_ret
      exact ⟨ret_bool E.out, hb1⟩
    · have E := hid (show inR slope 0 1000 = asked l lift slope by simp [asked, h1, h2])
      have HG := hid h1
      have H2 := hid h2
      clear h1 h2
      go_enter Try.func66, Try.ntmps66
      go_wp2_with fail
      refine (i_IsValidCurve _ _ _ l _ H.out (by omega)).mono ?_
      rintro e w1 ⟨rfl, hb1⟩
      rw [HG.out]
      go_wp2_with fail
      refine (i_isCurveValue _ _).mono ?_
      rintro e _ ⟨rfl, rfl⟩
      rw [H2.out]
      go_wp2_with fail
      refine (i_isCurveValue _ _).mono ?_
      rintro e _ ⟨rfl, rfl⟩
      go_wp2
      go_ret
      exact ⟨ret_bool E.out, hb1⟩
theorem s_l7Asked (a : Option Addr) (n c : Nat) (l : List Pt) (lift slope : Int) (w : World) (h : PAt w a n l) (hn : n ≤ 1048576) :
    Calls Try.prog 64 #[.slice a n c, .int .i64 lift, .int .i64 slope] w fun e w' => e = .returned (.bool (asked l lift slope)) ∧ Below w.heap.size w w' := by
  have H := hid h
  clear h
  cases h1 : goodCurve l
  · have E := hid (show false = asked l lift slope by simp [asked, h1])
    have HG := hid h1
    clear h1
    go_enter Try.func64, Try.ntmps64
    go_wp2_with fail
    refine (s_l7Good _ _ _ l _ H.out (by omega)).mono ?_
    rintro e w1 ⟨rfl, hb1⟩
    rw [HG.out]
    go_wp2
    go_ret
    exact ⟨ret_bool E.out, hb1⟩
  · cases h2 : inR lift 0 1000
    · have E := hid (show false = asked l lift slope by simp [asked, h1, h2])
      have HG := hid h1
      have H2 := hid h2
      clear h1 h2
      go_enter Try.func64, Try.ntmps64
      go_wp2_with fail
      refine (s_l7Good _ _ _ l _ H.out (by omega)).mono ?_
      rintro e w1 ⟨rfl, hb1⟩
      rw [HG.out]
      go_wp2_with fail
      refine (s_l7Value _ _).mono ?_
      rintro e _ ⟨rfl, rfl⟩
      rw [H2.out]
      go_wp2
      go_ret
      exact ⟨ret_bool E.out, hb1⟩
    · have E := hid (show inR slope 0 1000 = asked l lift slope by simp [asked, h1, h2])
      have HG := hid h1
      have H2 := hid h2
      clear h1 h2
      go_enter Try.func64, Try.ntmps64
      go_wp2_with fail
      refine (s_l7Good _ _ _ l _ H.out (by omega)).mono ?_
      rintro e w1 ⟨rfl, hb1⟩
      rw [HG.out]
      go_wp2_with fail
      refine (s_l7Value _ _).mono ?_
      rintro e _ ⟨rfl, rfl⟩
      rw [H2.out]
      go_wp2_with fail
      refine (s_l7Value _ _).mono ?_
      rintro e _ ⟨rfl, rfl⟩
      go_wp2
      go_ret
      exact ⟨ret_bool E.out, hb1⟩

/-- The fraction at the working point. -/
def wkN (l : List Pt) (k : Nat) (lift : Int) : Int := ((pt l (k - 1)).2 - lift) * ((pt l k).1 - (pt l (k - 1)).1) + ((pt l (k - 1)).2 - (pt l k).2) * (pt l (k - 1)).1
def wkD (l : List Pt) (k : Nat) (slope : Int) : Int := slope * ((pt l k).1 - (pt l (k - 1)).1) + ((pt l (k - 1)).2 - (pt l k).2)
theorem wkN_eq (l : List Pt) (k : Nat) (lift : Int) : ((pt l k).1 - (pt l (k - 1)).1) * ((pt l (k - 1)).2 - lift) + ((pt l (k - 1)).2 - (pt l k).2) * (pt l (k - 1)).1 = wkN l k lift := by unfold wkN; grind
theorem wkD_eq (l : List Pt) (k : Nat) (slope : Int) : ((pt l (k - 1)).2 - (pt l k).2) + slope * ((pt l k).1 - (pt l (k - 1)).1) = wkD l k slope := by unfold wkD; grind
/-- What is needed at a point, and the point at which the curve does not give more. -/
abbrev meets (l : List Pt) (lift slope : Int) (j : Nat) : Prop := (pt l j).2 ≤ lift + slope * (pt l j).1
abbrev stops (l : List Pt) (lift slope : Int) (j : Nat) : Prop := lift + slope * (pt l (j - 1)).1 ≤ (pt l (j - 1)).2 ∧ (pt l j).2 ≤ lift + slope * (pt l j).1

end Go.Proofs.Ytpcbeapajlchgaa

/-
  Curves: the working point of the reference.
-/
set_option linter.unusedVariables false
set_option linter.unusedSimpArgs false
namespace Go.Proofs.Ytpcbeapajlchgaa
open Go.RowKit

set_option maxHeartbeats 4000000 in
theorem s_WorkingPoint_yes (a : Option Addr) (n c k : Nat) (lift slope : Int) (l : List Pt) (w : World) (h : PAt w a n l) (hg : asked l lift slope = true) (h0 : lift ≤ (pt l 0).2) (hk : Seg n (meets l lift slope) k) :
    Calls Try.prog 28 #[.slice a n c, .int .i64 lift, .int .i64 slope] w fun e w' => e = .returned (.tuple #[.int .i64 (lowN (wkN l k lift) (wkD l k slope)), .int .i64 (lowD (wkN l k lift) (wkD l k slope)), .bool true]) ∧ Below w.heap.size w w' := by
  obtain ⟨hg1, hl, hs⟩ := asked_iff hg
  have H := hid h
  have HL := hid h.1
  have HA := hid hg
  have HG := hid hg1
  obtain ⟨hk1, hkn, hks, hkp⟩ := hk
  have HK := hid hks
  have HP := hid hkp
  obtain ⟨_, hn6⟩ := good_len hg1 h.1
  obtain ⟨b0, off0, rfl, hbw0, -, -⟩ := PAt.get h 0 (by omega)
  clear h hg hg1 hks hkp
  go_enter Try.func28, Try.ntmps28
  go_wp2_with fail
  refine (s_l7Asked _ _ _ l _ _ _ H.out (by omega)).mono ?_
  rintro e w1 ⟨rfl, hb1⟩
  rw [HA.out]
  have HB1 := hid hb1
  obtain ⟨_, _, e0, hbw, x0, x1⟩ := PAt.get (H.out.below hb1) 0 (by omega)
  cases e0
  simp only [Nat.zero_mul, Nat.add_zero] at x0 x1
  clear hb1
  go_wp2
  clear x0 x1 hbw
  go_loopg [9] (k - 1) (fun g i wr => ∃ j : Nat, 1 ≤ j ∧ j ≤ k ∧ g = k - j ∧ i = .int .i64 j ∧ Hid (Below w.heap.size w wr))
  case atStart => exact ⟨1, by omega, hk1, rfl, rfl, HB1.out⟩
  case round =>
    obtain ⟨j, hj1, hjk, rfl, rfl, hB⟩ := hrel
    have hlt' : j - 1 < n := by omega
    obtain ⟨_, _, e1, hbw, x0, x1⟩ := PAt.get (H.out.below hB.out) j (by omega)
    cases e1
    obtain ⟨_, _, e2, _, y0, y1⟩ := PAt.get (H.out.below hB.out) (j - 1) (by omega)
    cases e2
    have hw : IntKind.i64.wrap ((j : Int) - 1) = ((j - 1 : Nat) : Int) := (IntWalk.i64_in _ (by omega)).trans (by omega)
    have hz1 : b0 < wr.heap.size + 1 := by omega
    have hz2 : b0 < wr.heap.size + 1 + 1 := by omega
    have hjn : j < n := by omega
    go_upto_region 6 with fail
    go_cut [10, 11] (fun s6 s7 wx => ∃ g6 g7 : Nat, s6 = .pointer (some ⟨g6, 0, none⟩) ∧ s7 = .pointer (some ⟨g7, 0, none⟩) ∧ Hid (Below wr.heap.size wr wx ∧ wx.heap[g6]? = some (.cells #[.int .i64 (pt l (j - 1)).1, .int .i64 (pt l (j - 1)).2] 52 (0, 0)) ∧ wx.heap[g7]? = some (.cells #[.int .i64 (pt l j).1, .int .i64 (pt l j).2] 52 (0, 0))))
    case first =>
      go_region_with (fail)
      all_goals (go_wp2_with fail; go_meet)
      all_goals first
        | (refine ⟨wr.heap.size, wr.heap.size + 1, rfl, rfl, ?_⟩; obtain ⟨r1, r2, r3⟩ := pair_new wr _ _ wr.heap.size rfl; exact ⟨r1, r2, r3⟩)
        | (refine ⟨wr.heap.size + 1, wr.heap.size, rfl, rfl, ?_⟩; obtain ⟨r1, r2, r3⟩ := pair_new wr _ _ wr.heap.size rfl; exact ⟨r1, r3, r2⟩)
    case rest =>
      obtain ⟨g6, g7, rfl, rfl, hx⟩ := hcut
      clear x0 x1 y0 y1 hz1 hz2 hw hbw hlt'
      obtain ⟨hB2, h6, h7⟩ := hx.out
      have hz6 := (Array.getElem?_eq_some_iff.1 h6).1
      have hz7 := (Array.getElem?_eq_some_iff.1 h7).1
      have m60 := cell_of_row wc _ 0 _ _ (0, 0) h6
      have m61 := cell_of_row wc _ 1 _ _ (0, 0) h6
      have m70 := cell_of_row wc _ 0 _ _ (0, 0) h7
      have m71 := cell_of_row wc _ 1 _ _ (0, 0) h7
      have HC := hid (bstep hB.out hB2 : Below w.heap.size w wc)
      have HB2 := hid hB2
      clear hx h6 h7 hB2
      obtain ⟨p1, p2⟩ := pt_flow HG.out HL.out (k := j - 1) (by omega)
      obtain ⟨p3, p4⟩ := pt_flow HG.out HL.out (k := j) (by omega)
      obtain ⟨p5, p6⟩ := pt_step HG.out HL.out (k := j) (by omega) (by omega)
      have q1 := mul_in (x := slope) (y := (pt l (j - 1)).1) (A := 1000) (B := 1000) (by omega) (by omega)
      have q2 := mul_in (x := slope) (y := (pt l j).1) (A := 1000) (B := 1000) (by omega) (by omega)
      have q3 := mul_in (x := (pt l j).1 - (pt l (j - 1)).1) (y := (pt l (j - 1)).2 - lift) (A := 1000) (B := 1000) (by omega) (by omega)
      have q7 := mul_in (x := (pt l (j - 1)).2 - lift) (y := (pt l j).1 - (pt l (j - 1)).1) (A := 1000) (B := 1000) (by omega) (by omega)
      have q4 := mul_in (x := (pt l (j - 1)).2 - (pt l j).2) (y := (pt l (j - 1)).1) (A := 1000) (B := 1000) (by omega) (by omega)
      have q5 := mul_in (x := slope) (y := (pt l j).1 - (pt l (j - 1)).1) (A := 1000) (B := 1000) (by omega) (by omega)
      have q6 := Int.mul_nonneg (a := slope) (b := (pt l j).1 - (pt l (j - 1)).1) (by omega) (by omega)
      simp only [Int.reduceMul] at q1 q2 q3 q4 q5 q7
      by_cases hlt : j < k
      · have hf : lift + slope * (pt l j).1 < (pt l j).2 := by have := HK.out j hj1 hlt; first | omega | (simp only [meets] at this; omega)
        go_wp2
        go_roundg (k - (j + 1))
        case rel => exact ⟨j + 1, by omega, by omega, rfl, by go_num, HC.out⟩
        case measure => omega
      · obtain rfl : j = k := by omega
        have hf : ¬ (lift + slope * (pt l j).1 < (pt l j).2) := by have this : (pt l j).2 ≤ lift + slope * (pt l j).1 := HP.out; omega
        go_wp2
        go_quiet (fail)
        go_wp2_with fail
        refine (s_l3Reduce _ _ _ (by omega) (by omega) (by omega)).mono ?_
        rintro e _ ⟨rfl, m, rfl⟩
        go_wp2
        go_ret3
        rw [wkN_eq, wkD_eq]
        exact ⟨rfl, below_drewN HC.out _⟩

set_option maxHeartbeats 4000000 in
theorem s_WorkingPoint_none (a : Option Addr) (n c : Nat) (lift slope : Int) (l : List Pt) (w : World) (h : PAt w a n l) (hg : asked l lift slope = true) (h0 : lift ≤ (pt l 0).2) (hk : ∀ j, 1 ≤ j → j < n → ¬ meets l lift slope j) :
    Calls Try.prog 28 #[.slice a n c, .int .i64 lift, .int .i64 slope] w fun e w' => e = .returned (.tuple #[.int .i64 0, .int .i64 0, .bool false]) ∧ Below w.heap.size w w' := by
  obtain ⟨hg1, hl, hs⟩ := asked_iff hg
  have H := hid h
  have HL := hid h.1
  have HA := hid hg
  have HG := hid hg1
  have HK := hid hk
  obtain ⟨_, hn6⟩ := good_len hg1 h.1
  obtain ⟨b0, off0, rfl, hbw0, -, -⟩ := PAt.get h 0 (by omega)
  clear h hg hg1 hk
  go_enter Try.func28, Try.ntmps28
  go_wp2_with fail
  refine (s_l7Asked _ _ _ l _ _ _ H.out (by omega)).mono ?_
  rintro e w1 ⟨rfl, hb1⟩
  rw [HA.out]
  have HB1 := hid hb1
  obtain ⟨_, _, e0, hbw, x0, x1⟩ := PAt.get (H.out.below hb1) 0 (by omega)
  cases e0
  simp only [Nat.zero_mul, Nat.add_zero] at x0 x1
  clear hb1
  go_wp2
  clear x0 x1 hbw
  go_loopg [9] (n - 1) (fun g i wr => ∃ j : Nat, 1 ≤ j ∧ j ≤ n ∧ g = n - j ∧ i = .int .i64 j ∧ Hid (Below w.heap.size w wr))
  case atStart => exact ⟨1, by omega, by omega, rfl, rfl, HB1.out⟩
  case round =>
    obtain ⟨j, hj1, hjk, rfl, rfl, hB⟩ := hrel
    by_cases hlt : j < n
    · have hlt' : j - 1 < n := by omega
      obtain ⟨_, _, e1, hbw, x0, x1⟩ := PAt.get (H.out.below hB.out) j (by omega)
      cases e1
      obtain ⟨_, _, e2, _, y0, y1⟩ := PAt.get (H.out.below hB.out) (j - 1) (by omega)
      cases e2
      have hw : IntKind.i64.wrap ((j : Int) - 1) = ((j - 1 : Nat) : Int) := (IntWalk.i64_in _ (by omega)).trans (by omega)
      have hz1 : b0 < wr.heap.size + 1 := by omega
      have hz2 : b0 < wr.heap.size + 1 + 1 := by omega
      have hjn : j < n := by omega
      go_upto_region 6 with fail
      go_cut [10, 11] (fun s6 s7 wx => ∃ g6 g7 : Nat, s6 = .pointer (some ⟨g6, 0, none⟩) ∧ s7 = .pointer (some ⟨g7, 0, none⟩) ∧ Hid (Below wr.heap.size wr wx ∧ wx.heap[g6]? = some (.cells #[.int .i64 (pt l (j - 1)).1, .int .i64 (pt l (j - 1)).2] 52 (0, 0)) ∧ wx.heap[g7]? = some (.cells #[.int .i64 (pt l j).1, .int .i64 (pt l j).2] 52 (0, 0))))
      case first =>
        go_region_with (fail)
        all_goals (go_wp2_with fail; go_meet)
        all_goals first
          | (refine ⟨wr.heap.size, wr.heap.size + 1, rfl, rfl, ?_⟩; obtain ⟨r1, r2, r3⟩ := pair_new wr _ _ wr.heap.size rfl; exact ⟨r1, r2, r3⟩)
          | (refine ⟨wr.heap.size + 1, wr.heap.size, rfl, rfl, ?_⟩; obtain ⟨r1, r2, r3⟩ := pair_new wr _ _ wr.heap.size rfl; exact ⟨r1, r3, r2⟩)
      case rest =>
        obtain ⟨g6, g7, rfl, rfl, hx⟩ := hcut
        clear x0 x1 y0 y1 hz1 hz2 hw hbw hlt'
        obtain ⟨hB2, h6, h7⟩ := hx.out
        have hz6 := (Array.getElem?_eq_some_iff.1 h6).1
        have hz7 := (Array.getElem?_eq_some_iff.1 h7).1
        have m60 := cell_of_row wc _ 0 _ _ (0, 0) h6
        have m61 := cell_of_row wc _ 1 _ _ (0, 0) h6
        have m70 := cell_of_row wc _ 0 _ _ (0, 0) h7
        have m71 := cell_of_row wc _ 1 _ _ (0, 0) h7
        have HC := hid (bstep hB.out hB2 : Below w.heap.size w wc)
        have HB2 := hid hB2
        clear hx h6 h7 hB2
        obtain ⟨p1, p2⟩ := pt_flow HG.out HL.out (k := j - 1) (by omega)
        obtain ⟨p3, p4⟩ := pt_flow HG.out HL.out (k := j) (by omega)
        obtain ⟨p5, p6⟩ := pt_step HG.out HL.out (k := j) (by omega) (by omega)
        have q1 := mul_in (x := slope) (y := (pt l (j - 1)).1) (A := 1000) (B := 1000) (by omega) (by omega)
        have q2 := mul_in (x := slope) (y := (pt l j).1) (A := 1000) (B := 1000) (by omega) (by omega)
        have q3 := mul_in (x := (pt l j).1 - (pt l (j - 1)).1) (y := (pt l (j - 1)).2 - lift) (A := 1000) (B := 1000) (by omega) (by omega)
        have q7 := mul_in (x := (pt l (j - 1)).2 - lift) (y := (pt l j).1 - (pt l (j - 1)).1) (A := 1000) (B := 1000) (by omega) (by omega)
        have q4 := mul_in (x := (pt l (j - 1)).2 - (pt l j).2) (y := (pt l (j - 1)).1) (A := 1000) (B := 1000) (by omega) (by omega)
        have q5 := mul_in (x := slope) (y := (pt l j).1 - (pt l (j - 1)).1) (A := 1000) (B := 1000) (by omega) (by omega)
        have q6 := Int.mul_nonneg (a := slope) (b := (pt l j).1 - (pt l (j - 1)).1) (by omega) (by omega)
        simp only [Int.reduceMul] at q1 q2 q3 q4 q5 q7
        have hf : lift + slope * (pt l j).1 < (pt l j).2 := by have := HK.out j hj1 hlt; first | omega | (simp only [meets] at this; omega)
        go_wp2
        go_roundg (n - (j + 1))
        case rel => exact ⟨j + 1, by omega, by omega, rfl, by go_num, HC.out⟩
        case measure => omega
    · go_wp2
      go_ret3
      exact ⟨rfl, hB.out⟩

theorem s_WorkingPoint_high (a : Option Addr) (n c : Nat) (lift slope : Int) (l : List Pt) (w : World) (h : PAt w a n l) (hg : asked l lift slope = true) (h0 : (pt l 0).2 < lift) :
    Calls Try.prog 28 #[.slice a n c, .int .i64 lift, .int .i64 slope] w fun e w' => e = .returned (.tuple #[.int .i64 0, .int .i64 0, .bool false]) ∧ Below w.heap.size w w' := by
  obtain ⟨hg1, hl, hs⟩ := asked_iff hg
  have H := hid h
  have HA := hid hg
  obtain ⟨_, hn6⟩ := good_len hg1 h.1
  obtain ⟨b0, off0, rfl, hbw0, -, -⟩ := PAt.get h 0 (by omega)
  clear h hg hg1
  go_enter Try.func28, Try.ntmps28
  go_wp2_with fail
  refine (s_l7Asked _ _ _ l _ _ _ H.out (by omega)).mono ?_
  rintro e w1 ⟨rfl, hb1⟩
  rw [HA.out]
  have HB1 := hid hb1
  obtain ⟨_, _, e0, hbw, x0, x1⟩ := PAt.get (H.out.below hb1) 0 (by omega)
  cases e0
  simp only [Nat.zero_mul, Nat.add_zero] at x0 x1
  clear hb1
  go_wp2
  go_ret3
  exact ⟨rfl, HB1.out⟩

theorem s_WorkingPoint_no (a : Option Addr) (n c : Nat) (lift slope : Int) (l : List Pt) (w : World) (h : PAt w a n l) (hn : n ≤ 1048576) (hg : asked l lift slope = false) :
    Calls Try.prog 28 #[.slice a n c, .int .i64 lift, .int .i64 slope] w fun e w' => e = .returned (.tuple #[.int .i64 0, .int .i64 0, .bool false]) ∧ Below w.heap.size w w' := by
  have H := hid h
  have HA := hid hg
  clear h hg
  go_enter Try.func28, Try.ntmps28
  go_wp2_with fail
  refine (s_l7Asked _ _ _ l _ _ _ H.out (by omega)).mono ?_
  rintro e w1 ⟨rfl, hb1⟩
  rw [HA.out]
  go_wp2
  go_ret3
  exact ⟨rfl, hb1⟩

end Go.Proofs.Ytpcbeapajlchgaa

/-
  Curves: the working point of the program.
-/
set_option linter.unusedVariables false
set_option linter.unusedSimpArgs false
namespace Go.Proofs.Ytpcbeapajlchgaa
open Go.RowKit

set_option maxHeartbeats 4000000 in
theorem i_workingPoint_yes (a : Option Addr) (n c k : Nat) (lift slope : Int) (l : List Pt) (w : World) (h : PAt w a n l) (hg : asked l lift slope = true) (hk : Seg n (stops l lift slope) k) :
    Calls Try.prog 67 #[.slice a n c, .int .i64 lift, .int .i64 slope] w fun e w' => e = .returned (.tuple #[.agg #[.int .i64 (lowN (wkN l k lift) (wkD l k slope)), .int .i64 (lowD (wkN l k lift) (wkD l k slope))], .bool true]) ∧ Below w.heap.size w w' := by
  obtain ⟨hg1, hl, hs⟩ := asked_iff hg
  have H := hid h
  have HL := hid h.1
  have HG := hid hg1
  obtain ⟨hk1, hkn, hks, hkp⟩ := hk
  have HK := hid hks
  have HP := hid hkp
  obtain ⟨_, hn6⟩ := good_len hg1 h.1
  obtain ⟨b0, off0, rfl, hbw0, -, -⟩ := PAt.get h 0 (by omega)
  clear h hg hg1 hks hkp
  go_enter Try.func67, Try.ntmps67
  go_wp2
  go_loopg [8] (k - 1) (fun g i wr => ∃ j : Nat, 1 ≤ j ∧ j ≤ k ∧ g = k - j ∧ i = .int .i64 j ∧ Hid (Below w.heap.size w wr) ∧ Hid (wr.heap[w.heap.size]? = some (.cells #[.int .i64 0, .int .i64 0] 74 (0, 0))))
  case atStart => exact ⟨1, by omega, hk1, rfl, rfl, (Below.refl _ _).alloc (Nat.le_refl _) _, heap_alloc_new _ _⟩
  case round =>
    obtain ⟨j, hj1, hjk, rfl, rfl, hB, hT⟩ := hrel
    have hlt' : j - 1 < n := by omega
    obtain ⟨_, _, e1, hbw, x0, x1⟩ := PAt.get (H.out.below hB.out) j (by omega)
    cases e1
    obtain ⟨_, _, e2, _, y0, y1⟩ := PAt.get (H.out.below hB.out) (j - 1) (by omega)
    cases e2
    have hw : IntKind.i64.wrap ((j : Int) - 1) = ((j - 1 : Nat) : Int) := (IntWalk.i64_in _ (by omega)).trans (by omega)
    have hz1 : b0 < wr.heap.size + 1 := by omega
    have hz2 : b0 < wr.heap.size + 1 + 1 := by omega
    have hjn : j < n := by omega
    go_upto_region 4 with fail
    go_cut [9, 10] (fun s6 s7 wx => ∃ g6 g7 : Nat, s6 = .pointer (some ⟨g6, 0, none⟩) ∧ s7 = .pointer (some ⟨g7, 0, none⟩) ∧ Hid (Below wr.heap.size wr wx ∧ wx.heap[g6]? = some (.cells #[.int .i64 (pt l (j - 1)).1, .int .i64 (pt l (j - 1)).2] 52 (0, 0)) ∧ wx.heap[g7]? = some (.cells #[.int .i64 (pt l j).1, .int .i64 (pt l j).2] 52 (0, 0))))
    case first =>
      go_region_with (fail)
      all_goals (go_wp2_with fail; go_meet)
      all_goals first
        | (refine ⟨wr.heap.size, wr.heap.size + 1, rfl, rfl, ?_⟩; obtain ⟨r1, r2, r3⟩ := pair_new wr _ _ wr.heap.size rfl; exact ⟨r1, r2, r3⟩)
        | (refine ⟨wr.heap.size + 1, wr.heap.size, rfl, rfl, ?_⟩; obtain ⟨r1, r2, r3⟩ := pair_new wr _ _ wr.heap.size rfl; exact ⟨r1, r3, r2⟩)
    case rest =>
      obtain ⟨g6, g7, rfl, rfl, hx⟩ := hcut
      clear x0 x1 y0 y1 hz1 hz2 hw hbw hlt'
      obtain ⟨hB2, h6, h7⟩ := hx.out
      have hz6 := (Array.getElem?_eq_some_iff.1 h6).1
      have hz7 := (Array.getElem?_eq_some_iff.1 h7).1
      have m60 := cell_of_row wc _ 0 _ _ (0, 0) h6
      have m61 := cell_of_row wc _ 1 _ _ (0, 0) h6
      have m70 := cell_of_row wc _ 0 _ _ (0, 0) h7
      have m71 := cell_of_row wc _ 1 _ _ (0, 0) h7
      have HC := hid (bstep hB.out hB2 : Below w.heap.size w wc)
      have HB2 := hid hB2
      clear hx h6 h7 hB2
      obtain ⟨p1, p2⟩ := pt_flow HG.out HL.out (k := j - 1) (by omega)
      obtain ⟨p3, p4⟩ := pt_flow HG.out HL.out (k := j) (by omega)
      obtain ⟨p5, p6⟩ := pt_step HG.out HL.out (k := j) (by omega) (by omega)
      have q1 := mul_in (x := slope) (y := (pt l (j - 1)).1) (A := 1000) (B := 1000) (by omega) (by omega)
      have q2 := mul_in (x := slope) (y := (pt l j).1) (A := 1000) (B := 1000) (by omega) (by omega)
      have q3 := mul_in (x := (pt l j).1 - (pt l (j - 1)).1) (y := (pt l (j - 1)).2 - lift) (A := 1000) (B := 1000) (by omega) (by omega)
      have q7 := mul_in (x := (pt l (j - 1)).2 - lift) (y := (pt l j).1 - (pt l (j - 1)).1) (A := 1000) (B := 1000) (by omega) (by omega)
      have q4 := mul_in (x := (pt l (j - 1)).2 - (pt l j).2) (y := (pt l (j - 1)).1) (A := 1000) (B := 1000) (by omega) (by omega)
      have q5 := mul_in (x := slope) (y := (pt l j).1 - (pt l (j - 1)).1) (A := 1000) (B := 1000) (by omega) (by omega)
      have q6 := Int.mul_nonneg (a := slope) (b := (pt l j).1 - (pt l (j - 1)).1) (by omega) (by omega)
      simp only [Int.reduceMul] at q1 q2 q3 q4 q5 q7
      have hz0 := (Array.getElem?_eq_some_iff.1 hT.out).1
      have T0 := hid ((HB2.out.block _ hz0).trans hT.out)
      by_cases hlt : j < k
      · have hns : ¬ (lift + slope * (pt l (j - 1)).1 ≤ (pt l (j - 1)).2 ∧ (pt l j).2 ≤ lift + slope * (pt l j).1) := HK.out j hj1 hlt
        by_cases hf1 : (pt l (j - 1)).2 < lift + slope * (pt l (j - 1)).1
        · go_wp2
          go_roundg (k - (j + 1))
          case rel => exact ⟨j + 1, by omega, by omega, rfl, by go_num, HC.out, T0⟩
          case measure => omega
        · have hf2 : lift + slope * (pt l j).1 < (pt l j).2 := by omega
          clear hns
          go_wp2
          go_roundg (k - (j + 1))
          case rel => exact ⟨j + 1, by omega, by omega, rfl, by go_num, HC.out, T0⟩
          case measure => omega
      · obtain rfl : j = k := by omega
        have hf : ¬ (lift + slope * (pt l j).1 < (pt l j).2) := by have this : lift + slope * (pt l (j - 1)).1 ≤ (pt l (j - 1)).2 ∧ (pt l j).2 ≤ lift + slope * (pt l j).1 := HP.out; omega
        have hf1 : ¬ ((pt l (j - 1)).2 < lift + slope * (pt l (j - 1)).1) := by have this : lift + slope * (pt l (j - 1)).1 ≤ (pt l (j - 1)).2 ∧ (pt l j).2 ≤ lift + slope * (pt l j).1 := HP.out; omega
        go_wp2
        go_quiet (fail)
        go_wp2_with fail
        refine (i_asPart _ _ _ (by omega) (by omega) (by omega)).mono ?_
        rintro e w2 ⟨rfl, hb⟩
        have HD := hid (bstep (below_drewN HC.out _) hb : Below w.heap.size w w2)
        have T2 := hid ((hb.block w.heap.size (Array.getElem?_eq_some_iff.1 T0.out).1).trans T0.out)
        have n0 : w2.cell? ⟨w.heap.size, 0, none⟩ = some (.int .i64 0) := by rw [cell_of_row w2 _ _ _ _ (0, 0) T2.out]; rfl
        have n1 : w2.cell? ⟨w.heap.size, 1, none⟩ = some (.int .i64 0) := by rw [cell_of_row w2 _ _ _ _ (0, 0) T2.out]; rfl
        have f0 := frozen_of_row w2 _ 0 _ _ T2.out
        have f1 := frozen_of_row w2 _ 1 _ _ T2.out
        have hz3 : w.heap.size < w2.heap.size := (Array.getElem?_eq_some_iff.1 T2.out).1
        clear m60 m61 m70 m71 hb
        go_wp2
        have e7 := heap_setCell_same _ _ 1 _ _ (.int .i64 (lowD (wkN l j lift) (wkD l j slope))) (heap_setCell_same w2 _ 0 _ _ (.int .i64 (lowN (wkN l j lift) (wkD l j slope))) T2.out)
        have u0 := cell_of_row _ _ 0 _ _ (0, 0) e7
        have u1 := cell_of_row _ _ 1 _ _ (0, 0) e7
        simp only [wkN, wkD, List.setIfInBounds_toArray, List.set_cons_zero, List.set_cons_succ, List.getElem?_toArray, List.getElem?_cons_zero, List.getElem?_cons_succ] at u0 u1
        refine bodyPost_ret (v := .tuple #[.agg #[.int .i64 (lowN (wkN l j lift) (wkD l j slope)), .int .i64 (lowD (wkN l j lift) (wkD l j slope))], .bool true]) (by simp [results, Try.results67, go_sem, wkN, wkD, *]) rfl ⟨rfl, (HD.out.setCell (Nat.le_refl _) _).setCell (Nat.le_refl _) _⟩

set_option maxHeartbeats 4000000 in
theorem i_workingPoint_no (a : Option Addr) (n c : Nat) (lift slope : Int) (l : List Pt) (w : World) (h : PAt w a n l) (hg : asked l lift slope = true) (hk : ∀ j, 1 ≤ j → j < n → ¬ stops l lift slope j) :
    Calls Try.prog 67 #[.slice a n c, .int .i64 lift, .int .i64 slope] w fun e w' => e = .returned (.tuple #[.agg #[.int .i64 0, .int .i64 0], .bool false]) ∧ Below w.heap.size w w' := by
  obtain ⟨hg1, hl, hs⟩ := asked_iff hg
  have H := hid h
  have HL := hid h.1
  have HG := hid hg1
  have HK := hid hk
  obtain ⟨_, hn6⟩ := good_len hg1 h.1
  obtain ⟨b0, off0, rfl, hbw0, -, -⟩ := PAt.get h 0 (by omega)
  clear h hg hg1 hk
  go_enter Try.func67, Try.ntmps67
  go_wp2
  go_loopg [8] (n - 1) (fun g i wr => ∃ j : Nat, 1 ≤ j ∧ j ≤ n ∧ g = n - j ∧ i = .int .i64 j ∧ Hid (Below w.heap.size w wr) ∧ Hid (wr.heap[w.heap.size]? = some (.cells #[.int .i64 0, .int .i64 0] 74 (0, 0))))
  case atStart => exact ⟨1, by omega, by omega, rfl, rfl, (Below.refl _ _).alloc (Nat.le_refl _) _, heap_alloc_new _ _⟩
  case round =>
    obtain ⟨j, hj1, hjk, rfl, rfl, hB, hT⟩ := hrel
    by_cases hlt : j < n
    · have hlt' : j - 1 < n := by omega
      obtain ⟨_, _, e1, hbw, x0, x1⟩ := PAt.get (H.out.below hB.out) j (by omega)
      cases e1
      obtain ⟨_, _, e2, _, y0, y1⟩ := PAt.get (H.out.below hB.out) (j - 1) (by omega)
      cases e2
      have hw : IntKind.i64.wrap ((j : Int) - 1) = ((j - 1 : Nat) : Int) := (IntWalk.i64_in _ (by omega)).trans (by omega)
      have hz1 : b0 < wr.heap.size + 1 := by omega
      have hz2 : b0 < wr.heap.size + 1 + 1 := by omega
      have hjn : j < n := by omega
      go_upto_region 4 with fail
      go_cut [9, 10] (fun s6 s7 wx => ∃ g6 g7 : Nat, s6 = .pointer (some ⟨g6, 0, none⟩) ∧ s7 = .pointer (some ⟨g7, 0, none⟩) ∧ Hid (Below wr.heap.size wr wx ∧ wx.heap[g6]? = some (.cells #[.int .i64 (pt l (j - 1)).1, .int .i64 (pt l (j - 1)).2] 52 (0, 0)) ∧ wx.heap[g7]? = some (.cells #[.int .i64 (pt l j).1, .int .i64 (pt l j).2] 52 (0, 0))))
      case first =>
        go_region_with (fail)
        all_goals (go_wp2_with fail; go_meet)
        all_goals first
          | (refine ⟨wr.heap.size, wr.heap.size + 1, rfl, rfl, ?_⟩; obtain ⟨r1, r2, r3⟩ := pair_new wr _ _ wr.heap.size rfl; exact ⟨r1, r2, r3⟩)
          | (refine ⟨wr.heap.size + 1, wr.heap.size, rfl, rfl, ?_⟩; obtain ⟨r1, r2, r3⟩ := pair_new wr _ _ wr.heap.size rfl; exact ⟨r1, r3, r2⟩)
      case rest =>
        obtain ⟨g6, g7, rfl, rfl, hx⟩ := hcut
        clear x0 x1 y0 y1 hz1 hz2 hw hbw hlt'
        obtain ⟨hB2, h6, h7⟩ := hx.out
        have hz6 := (Array.getElem?_eq_some_iff.1 h6).1
        have hz7 := (Array.getElem?_eq_some_iff.1 h7).1
        have m60 := cell_of_row wc _ 0 _ _ (0, 0) h6
        have m61 := cell_of_row wc _ 1 _ _ (0, 0) h6
        have m70 := cell_of_row wc _ 0 _ _ (0, 0) h7
        have m71 := cell_of_row wc _ 1 _ _ (0, 0) h7
        have HC := hid (bstep hB.out hB2 : Below w.heap.size w wc)
        have HB2 := hid hB2
        clear hx h6 h7 hB2
        obtain ⟨p1, p2⟩ := pt_flow HG.out HL.out (k := j - 1) (by omega)
        obtain ⟨p3, p4⟩ := pt_flow HG.out HL.out (k := j) (by omega)
        obtain ⟨p5, p6⟩ := pt_step HG.out HL.out (k := j) (by omega) (by omega)
        have q1 := mul_in (x := slope) (y := (pt l (j - 1)).1) (A := 1000) (B := 1000) (by omega) (by omega)
        have q2 := mul_in (x := slope) (y := (pt l j).1) (A := 1000) (B := 1000) (by omega) (by omega)
        have q3 := mul_in (x := (pt l j).1 - (pt l (j - 1)).1) (y := (pt l (j - 1)).2 - lift) (A := 1000) (B := 1000) (by omega) (by omega)
        have q7 := mul_in (x := (pt l (j - 1)).2 - lift) (y := (pt l j).1 - (pt l (j - 1)).1) (A := 1000) (B := 1000) (by omega) (by omega)
        have q4 := mul_in (x := (pt l (j - 1)).2 - (pt l j).2) (y := (pt l (j - 1)).1) (A := 1000) (B := 1000) (by omega) (by omega)
        have q5 := mul_in (x := slope) (y := (pt l j).1 - (pt l (j - 1)).1) (A := 1000) (B := 1000) (by omega) (by omega)
        have q6 := Int.mul_nonneg (a := slope) (b := (pt l j).1 - (pt l (j - 1)).1) (by omega) (by omega)
        simp only [Int.reduceMul] at q1 q2 q3 q4 q5 q7
        have hz0 := (Array.getElem?_eq_some_iff.1 hT.out).1
        have T0 := hid ((HB2.out.block _ hz0).trans hT.out)
        have hns : ¬ (lift + slope * (pt l (j - 1)).1 ≤ (pt l (j - 1)).2 ∧ (pt l j).2 ≤ lift + slope * (pt l j).1) := HK.out j hj1 hlt
        by_cases hf1 : (pt l (j - 1)).2 < lift + slope * (pt l (j - 1)).1
        · go_wp2
          go_roundg (n - (j + 1))
          case rel => exact ⟨j + 1, by omega, by omega, rfl, by go_num, HC.out, T0⟩
          case measure => omega
        · have hf2 : lift + slope * (pt l j).1 < (pt l j).2 := by omega
          clear hns
          go_wp2
          go_roundg (n - (j + 1))
          case rel => exact ⟨j + 1, by omega, by omega, rfl, by go_num, HC.out, T0⟩
          case measure => omega
    · have n0 : wr.cell? ⟨w.heap.size, 0, none⟩ = some (.int .i64 0) := by rw [cell_of_row wr _ _ _ _ (0, 0) hT.out]; rfl
      have n1 : wr.cell? ⟨w.heap.size, 1, none⟩ = some (.int .i64 0) := by rw [cell_of_row wr _ _ _ _ (0, 0) hT.out]; rfl
      have f0 := frozen_of_row wr _ 0 _ _ hT.out
      have f1 := frozen_of_row wr _ 1 _ _ hT.out
      have hz3 : w.heap.size < wr.heap.size := (Array.getElem?_eq_some_iff.1 hT.out).1
      go_wp2
      have e7 := heap_setCell_same _ _ 1 _ _ (.int .i64 0) (heap_setCell_same wr _ 0 _ _ (.int .i64 0) hT.out)
      have u0 := cell_of_row _ _ 0 _ _ (0, 0) e7
      have u1 := cell_of_row _ _ 1 _ _ (0, 0) e7
      simp only [List.setIfInBounds_toArray, List.set_cons_zero, List.set_cons_succ, List.getElem?_toArray, List.getElem?_cons_zero, List.getElem?_cons_succ] at u0 u1
      refine bodyPost_ret (v := .tuple #[.agg #[.int .i64 0, .int .i64 0], .bool false]) (by simp [results, Try.results67, go_sem, *]) rfl ⟨rfl, (hB.out.setCell (Nat.le_refl _) _).setCell (Nat.le_refl _) _⟩

end Go.Proofs.Ytpcbeapajlchgaa

/-
  Curves: the working point and its head, for all arguments.
-/
set_option linter.unusedVariables false
set_option linter.unusedSimpArgs false
namespace Go.Proofs.Ytpcbeapajlchgaa
open Go.RowKit

/-- There is a working point. -/
def works (l : List Pt) (n : Nat) (lift slope : Int) (k : Nat) : Prop := asked l lift slope = true ∧ lift ≤ (pt l 0).2 ∧ Seg n (meets l lift slope) k

theorem head_le {l : List Pt} {n : Nat} (hg : goodCurve l = true) (hn : l.length = n) : ∀ j, j < n → (pt l j).2 ≤ (pt l 0).2
  | 0, _ => Int.le_refl _
  | j + 1, hj => by
    have := head_le hg hn j (by omega)
    have := pt_step hg hn hj (by omega)
    simp only [Nat.add_sub_cancel] at this
    omega
theorem seg_stops {l : List Pt} {n k : Nat} {lift slope : Int} (hn : l.length = n) (h : works l n lift slope k) : Seg n (stops l lift slope) k := by
  obtain ⟨ha, h0, hk1, hkn, hks, hkp⟩ := h
  obtain ⟨hg, hl, hs⟩ := asked_iff ha
  refine ⟨hk1, hkn, fun j h1 h2 h3 => hks j h1 h2 h3.2, ?_, hkp⟩
  by_cases h1 : k = 1
  · subst h1
    simp only [Nat.sub_self]
    rw [good_first hg, Int.mul_zero]
    omega
  · have := hks (k - 1) (by omega) (by omega)
    simp only [meets] at this
    omega
theorem not_stops {l : List Pt} {n : Nat} {lift slope : Int} (hn : l.length = n) (ha : asked l lift slope = true) (h : (pt l 0).2 < lift ∨ ∀ j, 1 ≤ j → j < n → ¬ meets l lift slope j) : ∀ j, 1 ≤ j → j < n → ¬ stops l lift slope j := by
  obtain ⟨hg, hl, hs⟩ := asked_iff ha
  intro j h1 h2 h3
  rcases h with h | h
  · have e := head_le hg hn (j - 1) (by omega)
    have p := pt_flow hg hn (k := j - 1) (by omega)
    have q := Int.mul_nonneg hs.1 p.1.1
    have := h3.1
    omega
  · exact h j h1 h2 h3.2
theorem not_works {l : List Pt} {n : Nat} {lift slope : Int} (h : ¬ ∃ k, works l n lift slope k) : asked l lift slope = false ∨ (asked l lift slope = true ∧ ((pt l 0).2 < lift ∨ (lift ≤ (pt l 0).2 ∧ ∀ j, 1 ≤ j → j < n → ¬ meets l lift slope j))) := by
  cases ha : asked l lift slope
  · exact .inl rfl
  · refine .inr ⟨rfl, ?_⟩
    by_cases h0 : lift ≤ (pt l 0).2
    · refine .inr ⟨h0, ?_⟩
      intro j
      induction j using Nat.strongRecOn with
      | _ j ih =>
        intro h1 h2 h3
        exact h ⟨j, ha, h0, h1, h2, fun i a b => ih i b a (by omega), h3⟩
    · exact .inl (by omega)
/-- The parts' bounds. -/
theorem wk_bounds {l : List Pt} {n k : Nat} {lift slope : Int} (hn : l.length = n) (h : works l n lift slope k) : 0 < wkD l k slope ∧ wkD l k slope ≤ 1001000 ∧ -2000000 ≤ wkN l k lift ∧ wkN l k lift ≤ 2000000 := by
  obtain ⟨ha, h0, hk1, hkn, hks, hkp⟩ := h
  obtain ⟨hg, hl, hs⟩ := asked_iff ha
  obtain ⟨p1, p2⟩ := pt_flow hg hn (k := k - 1) (by omega)
  obtain ⟨p3, p4⟩ := pt_flow hg hn (k := k) (by omega)
  obtain ⟨p5, p6⟩ := pt_step hg hn (k := k) (by omega) (by omega)
  have q7 := mul_in (x := (pt l (k - 1)).2 - lift) (y := (pt l k).1 - (pt l (k - 1)).1) (A := 1000) (B := 1000) (by omega) (by omega)
  have q4 := mul_in (x := (pt l (k - 1)).2 - (pt l k).2) (y := (pt l (k - 1)).1) (A := 1000) (B := 1000) (by omega) (by omega)
  have q5 := mul_in (x := slope) (y := (pt l k).1 - (pt l (k - 1)).1) (A := 1000) (B := 1000) (by omega) (by omega)
  have q6 := Int.mul_nonneg (a := slope) (b := (pt l k).1 - (pt l (k - 1)).1) (by omega) (by omega)
  simp only [Int.reduceMul] at q4 q5 q7
  unfold wkN wkD
  omega

theorem s_WorkingPoint_is (a : Option Addr) (n c k : Nat) (lift slope : Int) (l : List Pt) (w : World) (h : PAt w a n l) (hv : works l n lift slope k) :
    Calls Try.prog 28 #[.slice a n c, .int .i64 lift, .int .i64 slope] w fun e w' => e = .returned (.tuple #[.int .i64 (lowN (wkN l k lift) (wkD l k slope)), .int .i64 (lowD (wkN l k lift) (wkD l k slope)), .bool true]) ∧ Below w.heap.size w w' :=
  s_WorkingPoint_yes _ _ _ k _ _ l _ h hv.1 hv.2.1 hv.2.2
theorem s_WorkingPoint_not (a : Option Addr) (n c : Nat) (lift slope : Int) (l : List Pt) (w : World) (h : PAt w a n l) (hn : n ≤ 1048576) (hv : ¬ ∃ k, works l n lift slope k) :
    Calls Try.prog 28 #[.slice a n c, .int .i64 lift, .int .i64 slope] w fun e w' => e = .returned (.tuple #[.int .i64 0, .int .i64 0, .bool false]) ∧ Below w.heap.size w w' := by
  rcases not_works hv with h1 | ⟨h1, h2 | ⟨h2, h3⟩⟩
  · exact s_WorkingPoint_no _ _ _ _ _ l _ h hn h1
  · exact s_WorkingPoint_high _ _ _ _ _ l _ h h1 h2
  · exact s_WorkingPoint_none _ _ _ _ _ l _ h h1 h2 h3

theorem i_WorkingPoint_not (a : Option Addr) (n c : Nat) (lift slope : Int) (l : List Pt) (w : World) (h : PAt w a n l) (hn : n ≤ 1048576) (hv : ¬ ∃ k, works l n lift slope k) :
    Calls Try.prog 29 #[.slice a n c, .int .i64 lift, .int .i64 slope] w fun e w' => e = .returned (.tuple #[.int .i64 0, .int .i64 0, .bool false]) ∧ Below w.heap.size w w' := by
  rcases not_works hv with h1 | ⟨h1, h2⟩
  · have H := hid h
    have HA := hid h1
    clear h h1 hv
    go_enter Try.func29, Try.ntmps29
    go_wp2_with fail
    refine (i_canWork _ _ _ l _ _ _ H.out (by omega)).mono ?_
    rintro e w1 ⟨rfl, hb1⟩
    rw [HA.out]
    go_wp2
    go_ret3
    exact ⟨rfl, hb1⟩
  · have H := hid h
    have HA := hid h1
    have HS := hid (not_stops h.1 h1 (h2.imp_right fun x => x.2))
    clear h h1 h2 hv
    go_enter Try.func29, Try.ntmps29
    go_wp2_with fail
    refine (i_canWork _ _ _ l _ _ _ H.out (by omega)).mono ?_
    rintro e w1 ⟨rfl, hb1⟩
    rw [HA.out]
    go_wp2_with fail
    refine (i_workingPoint_no _ _ _ _ _ l _ (H.out.below (by go_grown)) HA.out HS.out).mono ?_
    rintro e w2 ⟨rfl, hb2⟩
    go_wp2
    go_ret3
    refine ⟨rfl, ?_⟩
    have z1 := hb1.size
    have z2 := hb2.size
    repeat' (first | (with_reducible exact Below.refl _ _) | (with_reducible assumption) | (with_reducible refine bstep ?_ (by with_reducible assumption)) | (with_reducible refine Below.alloc ?_ ?_ _) | (with_reducible refine Below.setCell ?_ ?_ _) | (with_reducible refine Below.drew ?_) | (with_reducible refine below_drewN ?_ _) | omega | (simp only [World.size_alloc, World.size_setCell, World.size_drew]; omega) | (simp; omega))

set_option maxHeartbeats 1000000 in
theorem i_WorkingPoint_is (a : Option Addr) (n c k : Nat) (lift slope : Int) (l : List Pt) (w : World) (h : PAt w a n l) (hv : works l n lift slope k) :
    Calls Try.prog 29 #[.slice a n c, .int .i64 lift, .int .i64 slope] w fun e w' => e = .returned (.tuple #[.int .i64 (lowN (wkN l k lift) (wkD l k slope)), .int .i64 (lowD (wkN l k lift) (wkD l k slope)), .bool true]) ∧ Below w.heap.size w w' := by
  have H := hid h
  have HA := hid hv.1
  have HS := hid (seg_stops h.1 hv)
  have hn := good_len (asked_iff hv.1).1 h.1
  clear h hv
  go_enter Try.func29, Try.ntmps29
  go_wp2_with fail
  refine (i_canWork _ _ _ l _ _ _ H.out (by omega)).mono ?_
  rintro e w1 ⟨rfl, hb1⟩
  rw [HA.out]
  go_wp2_with fail
  refine (i_workingPoint_yes _ _ _ k _ _ l _ (H.out.below (by go_grown)) HA.out HS.out).mono ?_
  rintro e w2 ⟨rfl, hb2⟩
  go_wp2
  go_quiet (fail)
  go_wp2
  go_ret3
  refine ⟨rfl, ?_⟩
  have z1 := hb1.size
  have z2 := hb2.size
  repeat' (first | (with_reducible exact Below.refl _ _) | (with_reducible assumption) | (with_reducible refine bstep ?_ (by with_reducible assumption)) | (with_reducible refine Below.alloc ?_ ?_ _) | (with_reducible refine Below.setCell ?_ ?_ _) | (with_reducible refine Below.drew ?_) | (with_reducible refine below_drewN ?_ _) | omega | (simp only [World.size_alloc, World.size_setCell, World.size_drew]; omega) | (simp; omega))

theorem i_WorkingHead_not (a : Option Addr) (n c : Nat) (lift slope : Int) (l : List Pt) (w : World) (h : PAt w a n l) (hn : n ≤ 1048576) (hv : ¬ ∃ k, works l n lift slope k) :
    Calls Try.prog 31 #[.slice a n c, .int .i64 lift, .int .i64 slope] w fun e w' => e = .returned (.tuple #[.int .i64 0, .int .i64 0, .bool false]) ∧ Below w.heap.size w w' := by
  rcases not_works hv with h1 | ⟨h1, h2⟩
  · have H := hid h
    have HA := hid h1
    clear h h1 hv
    go_enter Try.func31, Try.ntmps31
    go_wp2_with fail
    refine (i_canWork _ _ _ l _ _ _ H.out (by omega)).mono ?_
    rintro e w1 ⟨rfl, hb1⟩
    rw [HA.out]
    go_wp2
    go_ret3
    exact ⟨rfl, hb1⟩
  · have H := hid h
    have HA := hid h1
    have HS := hid (not_stops h.1 h1 (h2.imp_right fun x => x.2))
    clear h h1 h2 hv
    go_enter Try.func31, Try.ntmps31
    go_wp2_with fail
    refine (i_canWork _ _ _ l _ _ _ H.out (by omega)).mono ?_
    rintro e w1 ⟨rfl, hb1⟩
    rw [HA.out]
    go_wp2_with fail
    refine (i_workingPoint_no _ _ _ _ _ l _ (H.out.below (by go_grown)) HA.out HS.out).mono ?_
    rintro e w2 ⟨rfl, hb2⟩
    go_wp2
    go_ret3
    refine ⟨rfl, ?_⟩
    have z1 := hb1.size
    have z2 := hb2.size
    repeat' (first | (with_reducible exact Below.refl _ _) | (with_reducible assumption) | (with_reducible refine bstep ?_ (by with_reducible assumption)) | (with_reducible refine Below.alloc ?_ ?_ _) | (with_reducible refine Below.setCell ?_ ?_ _) | (with_reducible refine Below.drew ?_) | (with_reducible refine below_drewN ?_ _) | omega | (simp only [World.size_alloc, World.size_setCell, World.size_drew]; omega) | (simp; omega))

set_option maxHeartbeats 1000000 in
theorem i_WorkingHead_is (a : Option Addr) (n c k : Nat) (lift slope N D : Int) (l : List Pt) (w : World) (h : PAt w a n l) (hv : works l n lift slope k) (hN : N = lowN (wkN l k lift) (wkD l k slope)) (hD : D = lowD (wkN l k lift) (wkD l k slope)) :
    Calls Try.prog 31 #[.slice a n c, .int .i64 lift, .int .i64 slope] w fun e w' => e = .returned (.tuple #[.int .i64 (lowN (lift * D + slope * N) D), .int .i64 (lowD (lift * D + slope * N) D), .bool true]) ∧ Below w.heap.size w w' := by
  have H := hid h
  have HA := hid hv.1
  have HS := hid (seg_stops h.1 hv)
  have hn := good_len (asked_iff hv.1).1 h.1
  obtain ⟨b1, b2, b3⟩ := wk_bounds h.1 hv
  obtain ⟨-, r1, r2⟩ := asked_iff hv.1
  have c1 := lowN_fine (a := wkN l k lift) (B := 2000000) b1 b3
  have c2 := lowD_le (a := wkN l k lift) b1
  have c3 := lowD_pos (a := wkN l k lift) b1
  rw [← hN] at c1
  rw [← hD] at c2 c3
  have d1 := mul_in (x := lift) (y := D) (A := 1000) (B := 1001000) (by omega) (by omega)
  have d2 := mul_in (x := slope) (y := N) (A := 1000) (B := 2000000) (by omega) (by omega)
  simp only [Int.reduceMul] at d1 d2
  have HN := hid hN
  have HD := hid hD
  clear h hv hN hD
  go_enter Try.func31, Try.ntmps31
  go_wp2_with fail
  refine (i_canWork _ _ _ l _ _ _ H.out (by omega)).mono ?_
  rintro e w1 ⟨rfl, hb1⟩
  rw [HA.out]
  go_wp2_with fail
  refine (i_workingPoint_yes _ _ _ k _ _ l _ (H.out.below (by go_grown)) HA.out HS.out).mono ?_
  rintro e w2 ⟨rfl, hb2⟩
  rw [← HN.out, ← HD.out]
  go_wp2_with fail
  refine (i_lowestTerms _ _ _ (by omega) (by omega) (by omega)).mono ?_
  rintro e _ ⟨rfl, m, rfl⟩
  go_wp2
  go_ret3
  refine ⟨rfl, ?_⟩
  have z1 := hb1.size
  have z2 := hb2.size
  repeat' (first | (with_reducible exact Below.refl _ _) | (with_reducible assumption) | (with_reducible refine bstep ?_ (by with_reducible assumption)) | (with_reducible refine Below.alloc ?_ ?_ _) | (with_reducible refine Below.setCell ?_ ?_ _) | (with_reducible refine Below.drew ?_) | (with_reducible refine below_drewN ?_ _) | omega | (simp only [World.size_alloc, World.size_setCell, World.size_drew]; omega) | (simp; omega))

theorem s_WorkingHead_not (a : Option Addr) (n c : Nat) (lift slope : Int) (l : List Pt) (w : World) (h : PAt w a n l) (hn : n ≤ 1048576) (hv : ¬ ∃ k, works l n lift slope k) :
    Calls Try.prog 30 #[.slice a n c, .int .i64 lift, .int .i64 slope] w fun e w' => e = .returned (.tuple #[.int .i64 0, .int .i64 0, .bool false]) ∧ Below w.heap.size w w' := by
  have H := hid h
  have HV := hid hv
  clear h hv
  go_enter Try.func30, Try.ntmps30
  go_wp2_with fail
  refine (s_WorkingPoint_not _ _ _ _ _ l _ H.out (by omega) HV.out).mono ?_
  rintro e w1 ⟨rfl, hb1⟩
  go_wp2
  go_ret3
  exact ⟨rfl, hb1⟩

set_option maxHeartbeats 1000000 in
theorem s_WorkingHead_is (a : Option Addr) (n c k : Nat) (lift slope N D : Int) (l : List Pt) (w : World) (h : PAt w a n l) (hv : works l n lift slope k) (hN : N = lowN (wkN l k lift) (wkD l k slope)) (hD : D = lowD (wkN l k lift) (wkD l k slope)) :
    Calls Try.prog 30 #[.slice a n c, .int .i64 lift, .int .i64 slope] w fun e w' => e = .returned (.tuple #[.int .i64 (lowN (lift * D + slope * N) D), .int .i64 (lowD (lift * D + slope * N) D), .bool true]) ∧ Below w.heap.size w w' := by
  have H := hid h
  have HV := hid hv
  have hn := good_len (asked_iff hv.1).1 h.1
  obtain ⟨b1, b2, b3⟩ := wk_bounds h.1 hv
  obtain ⟨-, r1, r2⟩ := asked_iff hv.1
  have c1 := lowN_fine (a := wkN l k lift) (B := 2000000) b1 b3
  have c2 := lowD_le (a := wkN l k lift) b1
  have c3 := lowD_pos (a := wkN l k lift) b1
  rw [← hN] at c1
  rw [← hD] at c2 c3
  have d1 := mul_in (x := lift) (y := D) (A := 1000) (B := 1001000) (by omega) (by omega)
  have d2 := mul_in (x := slope) (y := N) (A := 1000) (B := 2000000) (by omega) (by omega)
  simp only [Int.reduceMul] at d1 d2
  have HN := hid hN
  have HD := hid hD
  clear h hv hN hD
  go_enter Try.func30, Try.ntmps30
  go_wp2_with fail
  refine (s_WorkingPoint_is _ _ _ k _ _ l _ H.out HV.out).mono ?_
  rintro e w1 ⟨rfl, hb1⟩
  rw [← HN.out, ← HD.out]
  go_wp2_with fail
  refine (s_l3Reduce _ _ _ (by omega) (by omega) (by omega)).mono ?_
  rintro e _ ⟨rfl, m, rfl⟩
  go_wp2
  go_ret3
  exact ⟨rfl, below_drewN hb1 _⟩

end Go.Proofs.Ytpcbeapajlchgaa

/-
  Steps of a drawn region, operation by operation.
-/
set_option linter.unusedVariables false
set_option linter.unusedSimpArgs false
namespace Go.Proofs.Ytpcbeapajlchgaa
open Go.RowKit

theorem drop_get {α : Type} {l : Array α} {i : Nat} {x : α} {r : List α} (h : l.toList.drop i = x :: r) : l[i]? = some x := by
  have e : (l.toList.drop i)[0]? = some x := by rw [h]; rfl
  rw [List.getElem?_drop] at e
  simpa using e
theorem wpAnyH_take' {P : Program} {md : Region.Mode} {ops : Array Oper} {Q : Exit → Act → World → Prop} {S : World → Prop} {i : Nat} {oi : Oper} {rest : List Oper} {v : Value} {fuel : Nat} {listed : Array Bool} {a : Act} {w : World} (hi : ops.toList.drop i = oi :: rest)
    (hs : Region.noSelect ops = true) (hf : Region.free md ops listed i = true) (hr : (Region.ready md ops listed).contains i = true)
    (hQ : ∀ c a w, Q (.panic c) (a.put oi.dst v) w → Q (.panic c) a w) (hy : YieldsIf P ops S oi v a) (hS : S w)
    (h : wpAnyH P md ops Q S fuel (listed.setIfInBounds i true) (a.put oi.dst v) w) : wpAnyH P md ops Q S (fuel + 1) listed a w :=
  wpAnyH_take (drop_get hi) hs hf hr hQ hy hS h
theorem allReadyH_cons' {P : Program} {md : Region.Mode} {ops : Array Oper} {Q : Exit → Act → World → Prop} {S : World → Prop} {fuel : Nat} {listed : Array Bool} {a : Act} {w : World} {i : Nat} {o : Oper} {rest : List Oper} {rs : List Nat} (ho : ops.toList.drop i = o :: rest)
    (h : ∀ K' : Act → World → Prop, Shut (∀ a w, S w → (S w → wpAnyH P md ops Q S fuel (listed.setIfInBounds i true) a w) → K' a w) → if Region.wanted o (yielded ops a.tmps) = true then Oper.wp P o a w K' Q else K' (a.put o.dst undef) w)
    (hs : AllReadyH P md ops Q S fuel listed a w rs) : AllReadyH P md ops Q S fuel listed a w (i :: rs) := AllReadyH.cons (drop_get ho) h hs

end Go.Proofs.Ytpcbeapajlchgaa

/-
  A region in any order whose last operation stores what the others have read: the condition on the world need not hold behind that one.
-/
set_option linter.unusedVariables false
set_option linter.unusedSimpArgs false
namespace Go.Proofs.Ytpcbeapajlchgaa
open Go.RowKit

section
variable {P : Program} {md : Region.Mode} {ops : Array Oper} {Q : Exit → Act → World → Prop} {S : World → Prop} {z : Nat}

/-- Any order from here on; S is asked behind each operation but z. -/
def AnyTo (P : Program) (md : Region.Mode) (ops : Array Oper) (Q : Exit → Act → World → Prop) (S : World → Prop) (z : Nat) : Nat → Array Bool → Act → World → Prop
  | 0, done, a, w => Region.ready md ops done = [] ∧ Q .normal a w
  | n + 1, done, a, w => (Region.ready md ops done = [] → Q .normal a w) ∧
      ∀ i ∈ Region.ready md ops done, wpOp P ops Q i (fun b v => (i ≠ z → S v) ∧ AnyTo P md ops Q S z n (done.setIfInBounds i true) b v) a w
theorem AnyTo.any : ∀ (n : Nat) (done : Array Bool) (a : Act) (w : World), AnyTo P md ops Q S z n done a w → wpAny P md ops Q n done a w
  | 0, _, _, _, h => h
  | n + 1, _, _, _, h => ⟨h.1, fun i hi => wpOp_mono (fun b v hv => AnyTo.any n _ b v hv.2) (h.2 i hi)⟩
/-- Operation z waits for operation i. -/
def waitsFor (md : Region.Mode) (ops : Array Oper) (z i : Nat) : Bool :=
  match ops[z]? with
  | some o => o.after.any fun e => Region.binds md e && e.on == i
  | none => false
theorem not_ready {i : Nat} {done : Array Bool} (hw : waitsFor md ops z i = true) (hi : done.getD i true = false) : z ∉ Region.ready md ops done := by
  intro hz
  obtain ⟨-, o, ho, hall⟩ := mem_ready.1 hz
  unfold waitsFor at hw
  rw [ho] at hw
  simp only [Array.any_eq_true] at hw
  obtain ⟨k, hk, hb⟩ := hw
  rw [Bool.and_eq_true, beq_iff_eq] at hb
  have h1 := hall _ (Array.getElem_mem hk) hb.1
  rw [hb.2] at h1
  by_cases hlt : i < done.size
  · simp [hlt] at hi h1
    rw [hi] at h1
    cases h1
  · simp [Array.getElem?_eq_none (by omega : done.size ≤ i)] at h1
theorem AnyTo.first {i : Nat} {oi : Oper} {v : Value} (hi : ops[i]? = some oi) (hs : Region.noSelect ops = true) (hw : waitsFor md ops z i = true)
    (hQ : ∀ c a w, Q (.panic c) (a.put oi.dst v) w → Q (.panic c) a w) : ∀ (n : Nat) (done : Array Bool) (a : Act) (w : World),
      (∀ j oj, ops[j]? = some oj → j ≠ i → done.getD j true = false → (∀ e ∈ oj.after, Region.binds md e = true → e.on ≠ i) → oi.apart ops oj = true) →
      i ∈ Region.ready md ops done → YieldsIf P ops S oi v a → S w →
      AnyTo P md ops Q S z n (done.setIfInBounds i true) (a.put oi.dst v) w → AnyTo P md ops Q S z (n + 1) done a w
  | 0, done, a, w, _, hr, hy, hS, H => by
    refine ⟨fun h => (by rw [h] at hr; cases hr), fun j hj => ?_⟩
    by_cases e : j = i
    · subst e; exact hy.wpOp hi hS ⟨fun _ => hS, H⟩
    · have h1 := ready_mono hj e
      rw [H.1] at h1
      cases h1
  | n + 1, done, a, w, hfree, hr, hy, hS, H => by
    refine ⟨fun h => (by rw [h] at hr; cases hr), fun j hj => ?_⟩
    by_cases e : j = i
    · subst e; exact hy.wpOp hi hS ⟨fun _ => hS, H⟩
    · have hun := (mem_ready.1 hr).1
      have hjz : j ≠ z := fun e2 => by subst e2; exact not_ready hw hun hj
      have h1 := H.2 j (ready_mono hj e)
      obtain ⟨hju, oj, hoj, hall⟩ := mem_ready.1 hj
      have hno : ∀ e ∈ oj.after, Region.binds md e = true → e.on ≠ i := fun e he hb e2 => by
        have h2 := hall e he hb
        rw [e2] at h2
        by_cases hlt : i < done.size
        · simp [hlt] at hun h2
          rw [hun] at h2
          cases h2
        · simp [Array.getElem?_eq_none (by omega : done.size ≤ i)] at h2
      have h2 := wpOp_putIf hoj (hfree j oj hoj e hju hno) (fun cs b => Region.noSelect_spec hs i oi cs b hi) (fun cs b => Region.noSelect_spec hs j oj cs b hoj) hQ hy h1
      refine wpOp_mono (fun b u h3 => ⟨h3.2.1, AnyTo.first hi hs hw hQ n (done.setIfInBounds j true) b u (fun k ok hk hki hku hkn => hfree k ok hk hki (by
        by_cases ejk : j = k
        · subst ejk; exact hju
        · rw [getD_set_ne true ejk] at hku; exact hku) hkn) (ready_mono hr (Ne.symm e)) h3.1 (h3.2.1 hjz) (by rw [Array.setIfInBounds_comm _ _ e]; exact h3.2.2)⟩) h2
/-- What yields its value in every world that meets S is taken first. -/
theorem AnyTo.take {i : Nat} {oi : Oper} {rest : List Oper} {v : Value} {n : Nat} {done : Array Bool} {a : Act} {w : World} (hi : ops.toList.drop i = oi :: rest)
    (hs : Region.noSelect ops = true) (hf : Region.free md ops done i = true) (hr : (Region.ready md ops done).contains i = true) (hw : waitsFor md ops z i = true)
    (hQ : ∀ c a w, Q (.panic c) (a.put oi.dst v) w → Q (.panic c) a w) (hy : YieldsIf P ops S oi v a) (hS : S w)
    (h : AnyTo P md ops Q S z n (done.setIfInBounds i true) (a.put oi.dst v) w) : AnyTo P md ops Q S z (n + 1) done a w :=
  AnyTo.first (drop_get hi) hs hw hQ n done a w (Region.free_spec (drop_get hi) hf) (by simpa using hr) hy hS h
/-- One operation alone may come up. -/
theorem AnyTo.one {i : Nat} {o : Oper} {rest : List Oper} {n : Nat} {done : Array Bool} {a : Act} {w : World} (ho : ops.toList.drop i = o :: rest) (hr : Region.ready md ops done = [i])
    (h : ∀ K : Act → World → Prop, Shut (∀ b v, S v → (S v → AnyTo P md ops Q S z n (done.setIfInBounds i true) b v) → K b v) → if Region.wanted o (yielded ops a.tmps) = true then Oper.wp P o a w K Q else K (a.put o.dst undef) w) : AnyTo P md ops Q S z (n + 1) done a w := by
  refine ⟨fun h0 => (by rw [hr] at h0; cases h0), fun j hj => ?_⟩
  rw [hr] at hj
  obtain rfl := List.mem_singleton.1 hj
  exact wpOp_step (drop_get ho) (fun K hK => h K (fun b v hS hv => hK b v ⟨fun _ => hS, hv hS⟩))
/-- The last operation. -/
theorem AnyTo.last {o : Oper} {rest : List Oper} {n : Nat} {done : Array Bool} {a : Act} {w : World} (ho : ops.toList.drop z = o :: rest) (hr : Region.ready md ops done = [z])
    (hd : Region.ready md ops (done.setIfInBounds z true) = [])
    (h : ∀ K : Act → World → Prop, Shut (∀ b v, Q .normal b v → K b v) → if Region.wanted o (yielded ops a.tmps) = true then Oper.wp P o a w K Q else K (a.put o.dst undef) w) : AnyTo P md ops Q S z (n + 1) done a w := by
  refine ⟨fun h0 => (by rw [hr] at h0; cases h0), fun j hj => ?_⟩
  rw [hr] at hj
  obtain rfl := List.mem_singleton.1 hj
  refine wpOp_step (drop_get ho) (fun K hK => h K (fun b v hv => hK b v ⟨fun h => absurd rfl h, ?_⟩))
  cases n with
  | zero => exact ⟨hd, hv⟩
  | succ n => exact ⟨fun _ => hv, by rw [hd]; intro i hi; cases hi⟩
theorem wp_region_to {id : Nat} {a : Act} {w : World} (S : World → Prop) (z : Nat) (hm : P.follows .mixedOrders = true) (hS : S w.drew)
    (h : S w.drew → AnyTo P .any ops Q S z ops.size (Array.replicate ops.size false) a w.drew) : (Code.region id ops true).wp P Q a w :=
  wp_region_any hm (AnyTo.any _ _ _ _ (h hS))
end

end Go.Proofs.Ytpcbeapajlchgaa

