/-
  Curves: HeadAt and FlowAt.
-/
import Derived.Test.YtpcbeapajlchgaaCurveS
set_option linter.unusedVariables false
set_option linter.unusedSimpArgs false
namespace Go.Proofs.Ytpcbeapajlchgaa
open Go.RowKit

theorem i_hasFlow (a : Option Addr) (n c : Nat) (q : Int) (l : List Pt) (w : World) (h : PAt w a n l) (hn : 1 ≤ n ∧ n ≤ 1048576) :
    Calls Try.prog 62 #[.slice a n c, .int .i64 q] w fun e w' => e = .returned (.bool (inR q 0 (pt l (n - 1)).1)) ∧ w = w' := by
  obtain ⟨b0, off0, rfl, hbw, x0, x1⟩ := PAt.get h (n - 1) (by omega)
  have hw : IntKind.i64.wrap ((n : Int) - 1) = ((n - 1 : Nat) : Int) := (IntWalk.i64_in _ (by omega)).trans (by omega)
  have hn2 : n - 1 < n := by omega
  clear h
  go_enter Try.func62, Try.ntmps62
  go_wp2_with fail
  refine (i_inside _ _ _ _).mono ?_
  rintro e _ ⟨rfl, rfl⟩
  go_wp2
  go_ret
  exact ⟨rfl, rfl⟩

/-- The flows and heads that a curve has. -/
def hasQ (l : List Pt) (n : Nat) (q : Int) : Bool := inR q 0 (pt l (n - 1)).1
def hasH (l : List Pt) (n : Nat) (q : Int) : Bool := inR q (pt l (n - 1)).2 (pt l 0).2

theorem seg_flow {l : List Pt} {n : Nat} {q : Int} (hg : goodCurve l = true) (hn : l.length = n) (h : hasQ l n q = true) : ∃ k, Seg n (fun j => q ≤ (pt l j).1) k := by
  have := good_len hg hn
  exact seg_exists this.1 (inR_iff.1 h).2
theorem seg_head {l : List Pt} {n : Nat} {q : Int} (hg : goodCurve l = true) (hn : l.length = n) (h : hasH l n q = true) : ∃ k, Seg n (fun j => (pt l j).2 ≤ q) k := by
  have := good_len hg hn
  exact seg_exists this.1 (inR_iff.1 h).1

theorem i_HeadAt_yes (a : Option Addr) (n c k : Nat) (q : Int) (l : List Pt) (w : World) (h : PAt w a n l) (hg : goodCurve l = true) (hq : hasQ l n q = true) (hk : Seg n (fun j => q ≤ (pt l j).1) k) :
    Calls Try.prog 27 #[.slice a n c, .int .i64 q] w fun e w' => e = .returned (.tuple #[.int .i64 (lowN (hdN l k q) (hdD l k)), .int .i64 (lowD (hdN l k q) (hdD l k)), .bool true]) ∧ Below w.heap.size w w' := by
  have hl := good_len hg h.1
  have hp := pt_flow hg h.1 (k := n - 1) (by omega)
  have hq2 : 0 ≤ q ∧ q ≤ 1000 := by have := inR_iff.1 hq; omega
  have H := hid h
  have HG := hid hg
  have HQ := hid hq
  have HK := hid hk
  clear h hg hq hp hk
  go_enter Try.func27, Try.ntmps27
  go_wp2_with fail
  refine (i_IsValidCurve _ _ _ l _ H.out (by omega)).mono ?_
  rintro e w1 ⟨rfl, hb1⟩
  rw [HG.out]
  go_wp2_with fail
  refine (i_hasFlow _ _ _ _ l _ (H.out.below hb1) (by omega)).mono ?_
  rintro e _ ⟨rfl, rfl⟩
  rw [show inR q 0 (pt l (n - 1)).1 = true from HQ.out]
  go_wp2_with fail
  refine (i_headAt _ _ _ _ _ l _ (H.out.below hb1) HG.out HK.out hq2).mono ?_
  rintro e w2 ⟨rfl, hb2⟩
  go_wp2
  go_quiet (fail)
  go_wp2
  go_ret3
  refine ⟨rfl, ?_⟩
  have z1 := hb1.size
  have z2 := hb2.size
  repeat' (first | (with_reducible exact Below.refl _ _) | (with_reducible assumption) | (with_reducible refine bstep ?_ (by with_reducible assumption)) | (with_reducible refine Below.alloc ?_ ?_ _) | (with_reducible refine Below.setCell ?_ ?_ _) | (with_reducible refine Below.drew ?_) | (with_reducible refine below_drewN ?_ _) | omega | (simp only [World.size_alloc, World.size_setCell, World.size_drew]; omega) | (simp; omega))

theorem i_HeadAt_no (a : Option Addr) (n c : Nat) (q : Int) (l : List Pt) (w : World) (h : PAt w a n l) (hn : n ≤ 1048576) (hg : (goodCurve l && hasQ l n q) = false) :
    Calls Try.prog 27 #[.slice a n c, .int .i64 q] w fun e w' => e = .returned (.tuple #[.int .i64 0, .int .i64 0, .bool false]) ∧ Below w.heap.size w w' := by
  cases h1 : goodCurve l
  · have H := hid h
    have HG := hid h1
    clear h hg h1
    go_enter Try.func27, Try.ntmps27
    go_wp2_with fail
    refine (i_IsValidCurve _ _ _ l _ H.out (by omega)).mono ?_
    rintro e w1 ⟨rfl, hb1⟩
    rw [HG.out]
    go_wp2
    go_ret3
    exact ⟨rfl, hb1⟩
  · have hl := good_len h1 h.1
    have H := hid h
    have HG := hid h1
    have HQ : Hid (hasQ l n q = false) := hid (by rw [h1] at hg; exact hg)
    clear h hg h1
    go_enter Try.func27, Try.ntmps27
    go_wp2_with fail
    refine (i_IsValidCurve _ _ _ l _ H.out (by omega)).mono ?_
    rintro e w1 ⟨rfl, hb1⟩
    rw [HG.out]
    go_wp2_with fail
    refine (i_hasFlow _ _ _ _ l _ (H.out.below hb1) (by omega)).mono ?_
    rintro e _ ⟨rfl, rfl⟩
    rw [show inR q 0 (pt l (n - 1)).1 = false from HQ.out]
    go_wp2
    go_ret3
    exact ⟨rfl, hb1⟩

theorem s_HeadAt_yes (a : Option Addr) (n c k : Nat) (q : Int) (l : List Pt) (w : World) (h : PAt w a n l) (hg : goodCurve l = true) (hq : hasQ l n q = true) (hk : Seg n (fun j => q ≤ (pt l j).1) k) :
    Calls Try.prog 26 #[.slice a n c, .int .i64 q] w fun e w' => e = .returned (.tuple #[.int .i64 (lowN (hdN l k q) (hdD l k)), .int .i64 (lowD (hdN l k q) (hdD l k)), .bool true]) ∧ Below w.heap.size w w' := by
  have hl := good_len hg h.1
  have hp := pt_flow hg h.1 (k := n - 1) (by omega)
  have hq2 : 0 ≤ q ∧ q ≤ 1000 := by have := inR_iff.1 hq; omega
  have hw : IntKind.i64.wrap ((n : Int) - 1) = ((n - 1 : Nat) : Int) := (IntWalk.i64_in _ (by omega)).trans (by omega)
  have hn2 : n - 1 < n := by omega
  have H := hid h
  have HG := hid hg
  have HQ := hid hq
  have HK := hid hk
  clear h hg hq hp hk
  go_enter Try.func26, Try.ntmps26
  go_wp2_with fail
  refine (s_l7Good _ _ _ l _ H.out (by omega)).mono ?_
  rintro e w1 ⟨rfl, hb1⟩
  rw [HG.out]
  obtain ⟨b0, off0, rfl, hbw, x0, x1⟩ := PAt.get (H.out.below hb1) (n - 1) (by omega)
  go_wp2_with fail
  refine (s_l1In _ _ _ _).mono ?_
  rintro e _ ⟨rfl, rfl⟩
  rw [show inR q 0 (pt l (n - 1)).1 = true from HQ.out]
  go_wp2_with fail
  refine (s_l7Head _ _ _ _ _ l _ (H.out.below hb1) HG.out HK.out hq2).mono ?_
  rintro e w2 ⟨rfl, hb2⟩
  go_wp2
  go_ret3
  exact ⟨rfl, bstep hb1 hb2⟩

theorem s_HeadAt_no (a : Option Addr) (n c : Nat) (q : Int) (l : List Pt) (w : World) (h : PAt w a n l) (hn : n ≤ 1048576) (hg : (goodCurve l && hasQ l n q) = false) :
    Calls Try.prog 26 #[.slice a n c, .int .i64 q] w fun e w' => e = .returned (.tuple #[.int .i64 0, .int .i64 0, .bool false]) ∧ Below w.heap.size w w' := by
  cases h1 : goodCurve l
  · have H := hid h
    have HG := hid h1
    clear h hg h1
    go_enter Try.func26, Try.ntmps26
    go_wp2_with fail
    refine (s_l7Good _ _ _ l _ H.out (by omega)).mono ?_
    rintro e w1 ⟨rfl, hb1⟩
    rw [HG.out]
    go_wp2
    go_ret3
    exact ⟨rfl, hb1⟩
  · have hl := good_len h1 h.1
    have hw : IntKind.i64.wrap ((n : Int) - 1) = ((n - 1 : Nat) : Int) := (IntWalk.i64_in _ (by omega)).trans (by omega)
    have hn2 : n - 1 < n := by omega
    have H := hid h
    have HG := hid h1
    have HQ : Hid (hasQ l n q = false) := hid (by rw [h1] at hg; exact hg)
    clear h hg h1
    go_enter Try.func26, Try.ntmps26
    go_wp2_with fail
    refine (s_l7Good _ _ _ l _ H.out (by omega)).mono ?_
    rintro e w1 ⟨rfl, hb1⟩
    rw [HG.out]
    obtain ⟨b0, off0, rfl, hbw, x0, x1⟩ := PAt.get (H.out.below hb1) (n - 1) (by omega)
    go_wp2_with fail
    refine (s_l1In _ _ _ _).mono ?_
    rintro e _ ⟨rfl, rfl⟩
    rw [show inR q 0 (pt l (n - 1)).1 = false from HQ.out]
    go_wp2
    go_ret3
    exact ⟨rfl, hb1⟩

end Go.Proofs.Ytpcbeapajlchgaa
