/-
  Curves: the working point.
-/
import Derived.Test.YtpcbeapajlchgaaCurveW0
set_option linter.unusedVariables false
set_option linter.unusedSimpArgs false
namespace Go.Proofs.Ytpcbeapajlchgaa
open Go.RowKit

/-- Whether a curve, a lift and a slope are asked for. -/
def asked (l : List Pt) (lift slope : Int) : Bool := goodCurve l && inR lift 0 1000 && inR slope 0 1000
theorem asked_iff {l : List Pt} {lift slope : Int} (h : asked l lift slope = true) : goodCurve l = true ∧ (0 ≤ lift ∧ lift ≤ 1000) ∧ (0 ≤ slope ∧ slope ≤ 1000) := by
  simp only [asked, Bool.and_eq_true] at h
  exact ⟨h.1.1, inR_iff.1 h.1.2, inR_iff.1 h.2⟩

theorem i_canWork (a : Option Addr) (n c : Nat) (l : List Pt) (lift slope : Int) (w : World) (h : PAt w a n l) (hn : n ≤ 1048576) :
    Calls Try.prog 66 #[.slice a n c, .int .i64 lift, .int .i64 slope] w fun e w' => e = .returned (.bool (asked l lift slope)) ∧ Below w.heap.size w w' := by
  have H := hid h
  clear h
  cases h1 : goodCurve l
  · have E := hid (show false = asked l lift slope by simp [asked, h1])
    have HG := hid h1
    clear h1
    go_enter Try.func66, Try.ntmps66
    go_wp2_with fail
    refine (i_IsValidCurve _ _ _ l _ H.out (by omega)).mono ?_
    rintro e w1 ⟨rfl, hb1⟩
    rw [HG.out]
    go_wp2
    go_ret
    exact ⟨ret_bool E.out, hb1⟩
  · cases h2 : inR lift 0 1000
    · have E := hid (show false = asked l lift slope by simp [asked, h1, h2])
      have HG := hid h1
      have H2 := hid h2
      clear h1 h2
      go_enter Try.func66, Try.ntmps66
      go_wp2_with fail
      refine (i_IsValidCurve _ _ _ l _ H.out (by omega)).mono ?_
      rintro e w1 ⟨rfl, hb1⟩
      rw [HG.out]
      go_wp2_with fail
      refine (i_isCurveValue _ _).mono ?_
      rintro e _ ⟨rfl, rfl⟩
      rw [H2.out]
      go_wp2
      go_ret
      exact ⟨ret_bool E.out, hb1⟩
    · have E := hid (show inR slope 0 1000 = asked l lift slope by simp [asked, h1, h2])
      have HG := hid h1
      have H2 := hid h2
      clear h1 h2
      go_enter Try.func66, Try.ntmps66
      go_wp2_with fail
      refine (i_IsValidCurve _ _ _ l _ H.out (by omega)).mono ?_
      rintro e w1 ⟨rfl, hb1⟩
      rw [HG.out]
      go_wp2_with fail
      refine (i_isCurveValue _ _).mono ?_
      rintro e _ ⟨rfl, rfl⟩
      rw [H2.out]
      go_wp2_with fail
      refine (i_isCurveValue _ _).mono ?_
      rintro e _ ⟨rfl, rfl⟩
      go_wp2
      go_ret
      exact ⟨ret_bool E.out, hb1⟩
theorem s_l7Asked (a : Option Addr) (n c : Nat) (l : List Pt) (lift slope : Int) (w : World) (h : PAt w a n l) (hn : n ≤ 1048576) :
    Calls Try.prog 64 #[.slice a n c, .int .i64 lift, .int .i64 slope] w fun e w' => e = .returned (.bool (asked l lift slope)) ∧ Below w.heap.size w w' := by
  have H := hid h
  clear h
  cases h1 : goodCurve l
  · have E := hid (show false = asked l lift slope by simp [asked, h1])
    have HG := hid h1
    clear h1
    go_enter Try.func64, Try.ntmps64
    go_wp2_with fail
    refine (s_l7Good _ _ _ l _ H.out (by omega)).mono ?_
    rintro e w1 ⟨rfl, hb1⟩
    rw [HG.out]
    go_wp2
    go_ret
    exact ⟨ret_bool E.out, hb1⟩
  · cases h2 : inR lift 0 1000
    · have E := hid (show false = asked l lift slope by simp [asked, h1, h2])
      have HG := hid h1
      have H2 := hid h2
      clear h1 h2
      go_enter Try.func64, Try.ntmps64
      go_wp2_with fail
      refine (s_l7Good _ _ _ l _ H.out (by omega)).mono ?_
      rintro e w1 ⟨rfl, hb1⟩
      rw [HG.out]
      go_wp2_with fail
      refine (s_l7Value _ _).mono ?_
      rintro e _ ⟨rfl, rfl⟩
      rw [H2.out]
      go_wp2
      go_ret
      exact ⟨ret_bool E.out, hb1⟩
    · have E := hid (show inR slope 0 1000 = asked l lift slope by simp [asked, h1, h2])
      have HG := hid h1
      have H2 := hid h2
      clear h1 h2
      go_enter Try.func64, Try.ntmps64
      go_wp2_with fail
      refine (s_l7Good _ _ _ l _ H.out (by omega)).mono ?_
      rintro e w1 ⟨rfl, hb1⟩
      rw [HG.out]
      go_wp2_with fail
      refine (s_l7Value _ _).mono ?_
      rintro e _ ⟨rfl, rfl⟩
      rw [H2.out]
      go_wp2_with fail
      refine (s_l7Value _ _).mono ?_
      rintro e _ ⟨rfl, rfl⟩
      go_wp2
      go_ret
      exact ⟨ret_bool E.out, hb1⟩

/-- The fraction at the working point. -/
def wkN (l : List Pt) (k : Nat) (lift : Int) : Int := ((pt l (k - 1)).2 - lift) * ((pt l k).1 - (pt l (k - 1)).1) + ((pt l (k - 1)).2 - (pt l k).2) * (pt l (k - 1)).1
def wkD (l : List Pt) (k : Nat) (slope : Int) : Int := slope * ((pt l k).1 - (pt l (k - 1)).1) + ((pt l (k - 1)).2 - (pt l k).2)
theorem wkN_eq (l : List Pt) (k : Nat) (lift : Int) : ((pt l k).1 - (pt l (k - 1)).1) * ((pt l (k - 1)).2 - lift) + ((pt l (k - 1)).2 - (pt l k).2) * (pt l (k - 1)).1 = wkN l k lift := by unfold wkN; grind
theorem wkD_eq (l : List Pt) (k : Nat) (slope : Int) : ((pt l (k - 1)).2 - (pt l k).2) + slope * ((pt l k).1 - (pt l (k - 1)).1) = wkD l k slope := by unfold wkD; grind
/-- What is needed at a point, and the point at which the curve does not give more. -/
abbrev meets (l : List Pt) (lift slope : Int) (j : Nat) : Prop := (pt l j).2 ≤ lift + slope * (pt l j).1
abbrev stops (l : List Pt) (lift slope : Int) (j : Nat) : Prop := lift + slope * (pt l (j - 1)).1 ≤ (pt l (j - 1)).2 ∧ (pt l j).2 ≤ lift + slope * (pt l j).1

end Go.Proofs.Ytpcbeapajlchgaa
