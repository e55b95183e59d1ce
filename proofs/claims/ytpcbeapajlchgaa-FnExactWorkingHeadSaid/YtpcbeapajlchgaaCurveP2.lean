/-
  Curves: the working point and its head, for all arguments.
-/
import Derived.Test.YtpcbeapajlchgaaCurvePs
import Derived.Test.YtpcbeapajlchgaaCurvePi
set_option linter.unusedVariables false
set_option linter.unusedSimpArgs false
namespace Go.Proofs.Ytpcbeapajlchgaa
open Go.RowKit

/-- There is a working point. -/
def works (l : List Pt) (n : Nat) (lift slope : Int) (k : Nat) : Prop := asked l lift slope = true ∧ lift ≤ (pt l 0).2 ∧ Seg n (meets l lift slope) k

theorem head_le {l : List Pt} {n : Nat} (hg : goodCurve l = true) (hn : l.length = n) : ∀ j, j < n → (pt l j).2 ≤ (pt l 0).2
  | 0, _ => Int.le_refl _
  | j + 1, hj => by
    have := head_le hg hn j (by omega)
    have := pt_step hg hn hj (by omega)
    simp only [Nat.add_sub_cancel] at this
    omega
theorem seg_stops {l : List Pt} {n k : Nat} {lift slope : Int} (hn : l.length = n) (h : works l n lift slope k) : Seg n (stops l lift slope) k := by
  obtain ⟨ha, h0, hk1, hkn, hks, hkp⟩ := h
  obtain ⟨hg, hl, hs⟩ := asked_iff ha
  refine ⟨hk1, hkn, fun j h1 h2 h3 => hks j h1 h2 h3.2, ?_, hkp⟩
  by_cases h1 : k = 1
  · subst h1
    simp only [Nat.sub_self]
    rw [good_first hg, Int.mul_zero]
    omega
  · have := hks (k - 1) (by omega) (by omega)
    simp only [meets] at this
    omega
theorem not_stops {l : List Pt} {n : Nat} {lift slope : Int} (hn : l.length = n) (ha : asked l lift slope = true) (h : (pt l 0).2 < lift ∨ ∀ j, 1 ≤ j → j < n → ¬ meets l lift slope j) : ∀ j, 1 ≤ j → j < n → ¬ stops l lift slope j := by
  obtain ⟨hg, hl, hs⟩ := asked_iff ha
  intro j h1 h2 h3
  rcases h with h | h
  · have e := head_le hg hn (j - 1) (by omega)
    have p := pt_flow hg hn (k := j - 1) (by omega)
    have q := Int.mul_nonneg hs.1 p.1.1
    have := h3.1
    omega
  · exact h j h1 h2 h3.2
theorem not_works {l : List Pt} {n : Nat} {lift slope : Int} (h : ¬ ∃ k, works l n lift slope k) : asked l lift slope = false ∨ (asked l lift slope = true ∧ ((pt l 0).2 < lift ∨ (lift ≤ (pt l 0).2 ∧ ∀ j, 1 ≤ j → j < n → ¬ meets l lift slope j))) := by
  cases ha : asked l lift slope
  · exact .inl rfl
  · refine .inr ⟨rfl, ?_⟩
    by_cases h0 : lift ≤ (pt l 0).2
    · refine .inr ⟨h0, ?_⟩
      intro j
      induction j using Nat.strongRecOn with
      | _ j ih =>
        intro h1 h2 h3
        exact h ⟨j, ha, h0, h1, h2, fun i a b => ih i b a (by omega), h3⟩
    · exact .inl (by omega)
/-- The parts' bounds. -/
theorem wk_bounds {l : List Pt} {n k : Nat} {lift slope : Int} (hn : l.length = n) (h : works l n lift slope k) : 0 < wkD l k slope ∧ wkD l k slope ≤ 1001000 ∧ -2000000 ≤ wkN l k lift ∧ wkN l k lift ≤ 2000000 := by
  obtain ⟨ha, h0, hk1, hkn, hks, hkp⟩ := h
  obtain ⟨hg, hl, hs⟩ := asked_iff ha
  obtain ⟨p1, p2⟩ := pt_flow hg hn (k := k - 1) (by omega)
  obtain ⟨p3, p4⟩ := pt_flow hg hn (k := k) (by omega)
  obtain ⟨p5, p6⟩ := pt_step hg hn (k := k) (by omega) (by omega)
  have q7 := mul_in (x := (pt l (k - 1)).2 - lift) (y := (pt l k).1 - (pt l (k - 1)).1) (A := 1000) (B := 1000) (by omega) (by omega)
  have q4 := mul_in (x := (pt l (k - 1)).2 - (pt l k).2) (y := (pt l (k - 1)).1) (A := 1000) (B := 1000) (by omega) (by omega)
  have q5 := mul_in (x := slope) (y := (pt l k).1 - (pt l (k - 1)).1) (A := 1000) (B := 1000) (by omega) (by omega)
  have q6 := Int.mul_nonneg (a := slope) (b := (pt l k).1 - (pt l (k - 1)).1) (by omega) (by omega)
  simp only [Int.reduceMul] at q4 q5 q7
  unfold wkN wkD
  omega

theorem s_WorkingPoint_is (a : Option Addr) (n c k : Nat) (lift slope : Int) (l : List Pt) (w : World) (h : PAt w a n l) (hv : works l n lift slope k) :
    Calls Try.prog 28 #[.slice a n c, .int .i64 lift, .int .i64 slope] w fun e w' => e = .returned (.tuple #[.int .i64 (lowN (wkN l k lift) (wkD l k slope)), .int .i64 (lowD (wkN l k lift) (wkD l k slope)), .bool true]) ∧ Below w.heap.size w w' :=
  s_WorkingPoint_yes _ _ _ k _ _ l _ h hv.1 hv.2.1 hv.2.2
theorem s_WorkingPoint_not (a : Option Addr) (n c : Nat) (lift slope : Int) (l : List Pt) (w : World) (h : PAt w a n l) (hn : n ≤ 1048576) (hv : ¬ ∃ k, works l n lift slope k) :
    Calls Try.prog 28 #[.slice a n c, .int .i64 lift, .int .i64 slope] w fun e w' => e = .returned (.tuple #[.int .i64 0, .int .i64 0, .bool false]) ∧ Below w.heap.size w w' := by
  rcases not_works hv with h1 | ⟨h1, h2 | ⟨h2, h3⟩⟩
  · exact s_WorkingPoint_no _ _ _ _ _ l _ h hn h1
  · exact s_WorkingPoint_high _ _ _ _ _ l _ h h1 h2
  · exact s_WorkingPoint_none _ _ _ _ _ l _ h h1 h2 h3

theorem i_WorkingPoint_not (a : Option Addr) (n c : Nat) (lift slope : Int) (l : List Pt) (w : World) (h : PAt w a n l) (hn : n ≤ 1048576) (hv : ¬ ∃ k, works l n lift slope k) :
    Calls Try.prog 29 #[.slice a n c, .int .i64 lift, .int .i64 slope] w fun e w' => e = .returned (.tuple #[.int .i64 0, .int .i64 0, .bool false]) ∧ Below w.heap.size w w' := by
  rcases not_works hv with h1 | ⟨h1, h2⟩
  · have H := hid h
    have HA := hid h1
    clear h h1 hv
    go_enter Try.func29, Try.ntmps29
    go_wp2_with fail
    refine (i_canWork _ _ _ l _ _ _ H.out (by omega)).mono ?_
    rintro e w1 ⟨rfl, hb1⟩
    rw [HA.out]
    go_wp2
    go_ret3
    exact ⟨rfl, hb1⟩
  · have H := hid h
    have HA := hid h1
    have HS := hid (not_stops h.1 h1 (h2.imp_right fun x => x.2))
    clear h h1 h2 hv
    go_enter Try.func29, Try.ntmps29
    go_wp2_with fail
    refine (i_canWork _ _ _ l _ _ _ H.out (by omega)).mono ?_
    rintro e w1 ⟨rfl, hb1⟩
    rw [HA.out]
    go_wp2_with fail
    refine (i_workingPoint_no _ _ _ _ _ l _ (H.out.below (by go_grown)) HA.out HS.out).mono ?_
    rintro e w2 ⟨rfl, hb2⟩
    go_wp2
    go_ret3
    refine ⟨rfl, ?_⟩
    have z1 := hb1.size
    have z2 := hb2.size
    repeat' (first | (with_reducible exact Below.refl _ _) | (with_reducible assumption) | (with_reducible refine bstep ?_ (by with_reducible assumption)) | (with_reducible refine Below.alloc ?_ ?_ _) | (with_reducible refine Below.setCell ?_ ?_ _) | (with_reducible refine Below.drew ?_) | (with_reducible refine below_drewN ?_ _) | omega | (simp only [World.size_alloc, World.size_setCell, World.size_drew]; omega) | (simp; omega))

set_option maxHeartbeats 1000000 in
theorem i_WorkingPoint_is (a : Option Addr) (n c k : Nat) (lift slope : Int) (l : List Pt) (w : World) (h : PAt w a n l) (hv : works l n lift slope k) :
    Calls Try.prog 29 #[.slice a n c, .int .i64 lift, .int .i64 slope] w fun e w' => e = .returned (.tuple #[.int .i64 (lowN (wkN l k lift) (wkD l k slope)), .int .i64 (lowD (wkN l k lift) (wkD l k slope)), .bool true]) ∧ Below w.heap.size w w' := by
  have H := hid h
  have HA := hid hv.1
  have HS := hid (seg_stops h.1 hv)
  have hn := good_len (asked_iff hv.1).1 h.1
  clear h hv
  go_enter Try.func29, Try.ntmps29
  go_wp2_with fail
  refine (i_canWork _ _ _ l _ _ _ H.out (by omega)).mono ?_
  rintro e w1 ⟨rfl, hb1⟩
  rw [HA.out]
  go_wp2_with fail
  refine (i_workingPoint_yes _ _ _ k _ _ l _ (H.out.below (by go_grown)) HA.out HS.out).mono ?_
  rintro e w2 ⟨rfl, hb2⟩
  go_wp2
  go_quiet (fail)
  go_wp2
  go_ret3
  refine ⟨rfl, ?_⟩
  have z1 := hb1.size
  have z2 := hb2.size
  repeat' (first | (with_reducible exact Below.refl _ _) | (with_reducible assumption) | (with_reducible refine bstep ?_ (by with_reducible assumption)) | (with_reducible refine Below.alloc ?_ ?_ _) | (with_reducible refine Below.setCell ?_ ?_ _) | (with_reducible refine Below.drew ?_) | (with_reducible refine below_drewN ?_ _) | omega | (simp only [World.size_alloc, World.size_setCell, World.size_drew]; omega) | (simp; omega))

theorem i_WorkingHead_not (a : Option Addr) (n c : Nat) (lift slope : Int) (l : List Pt) (w : World) (h : PAt w a n l) (hn : n ≤ 1048576) (hv : ¬ ∃ k, works l n lift slope k) :
    Calls Try.prog 31 #[.slice a n c, .int .i64 lift, .int .i64 slope] w fun e w' => e = .returned (.tuple #[.int .i64 0, .int .i64 0, .bool false]) ∧ Below w.heap.size w w' := by
  rcases not_works hv with h1 | ⟨h1, h2⟩
  · have H := hid h
    have HA := hid h1
    clear h h1 hv
    go_enter Try.func31, Try.ntmps31
    go_wp2_with fail
    refine (i_canWork _ _ _ l _ _ _ H.out (by omega)).mono ?_
    rintro e w1 ⟨rfl, hb1⟩
    rw [HA.out]
    go_wp2
    go_ret3
    exact ⟨rfl, hb1⟩
  · have H := hid h
    have HA := hid h1
    have HS := hid (not_stops h.1 h1 (h2.imp_right fun x => x.2))
    clear h h1 h2 hv
    go_enter Try.func31, Try.ntmps31
    go_wp2_with fail
    refine (i_canWork _ _ _ l _ _ _ H.out (by omega)).mono ?_
    rintro e w1 ⟨rfl, hb1⟩
    rw [HA.out]
    go_wp2_with fail
    refine (i_workingPoint_no _ _ _ _ _ l _ (H.out.below (by go_grown)) HA.out HS.out).mono ?_
    rintro e w2 ⟨rfl, hb2⟩
    go_wp2
    go_ret3
    refine ⟨rfl, ?_⟩
    have z1 := hb1.size
    have z2 := hb2.size
    repeat' (first | (with_reducible exact Below.refl _ _) | (with_reducible assumption) | (with_reducible refine bstep ?_ (by with_reducible assumption)) | (with_reducible refine Below.alloc ?_ ?_ _) | (with_reducible refine Below.setCell ?_ ?_ _) | (with_reducible refine Below.drew ?_) | (with_reducible refine below_drewN ?_ _) | omega | (simp only [World.size_alloc, World.size_setCell, World.size_drew]; omega) | (simp; omega))

set_option maxHeartbeats 1000000 in
theorem i_WorkingHead_is (a : Option Addr) (n c k : Nat) (lift slope N D : Int) (l : List Pt) (w : World) (h : PAt w a n l) (hv : works l n lift slope k) (hN : N = lowN (wkN l k lift) (wkD l k slope)) (hD : D = lowD (wkN l k lift) (wkD l k slope)) :
    Calls Try.prog 31 #[.slice a n c, .int .i64 lift, .int .i64 slope] w fun e w' => e = .returned (.tuple #[.int .i64 (lowN (lift * D + slope * N) D), .int .i64 (lowD (lift * D + slope * N) D), .bool true]) ∧ Below w.heap.size w w' := by
  have H := hid h
  have HA := hid hv.1
  have HS := hid (seg_stops h.1 hv)
  have hn := good_len (asked_iff hv.1).1 h.1
  obtain ⟨b1, b2, b3⟩ := wk_bounds h.1 hv
  obtain ⟨-, r1, r2⟩ := asked_iff hv.1
  have c1 := lowN_fine (a := wkN l k lift) (B := 2000000) b1 b3
  have c2 := lowD_le (a := wkN l k lift) b1
  have c3 := lowD_pos (a := wkN l k lift) b1
  rw [← hN] at c1
  rw [← hD] at c2 c3
  have d1 := mul_in (x := lift) (y := D) (A := 1000) (B := 1001000) (by omega) (by omega)
  have d2 := mul_in (x := slope) (y := N) (A := 1000) (B := 2000000) (by omega) (by omega)
  simp only [Int.reduceMul] at d1 d2
  have HN := hid hN
  have HD := hid hD
  clear h hv hN hD
  go_enter Try.func31, Try.ntmps31
  go_wp2_with fail
  refine (i_canWork _ _ _ l _ _ _ H.out (by omega)).mono ?_
  rintro e w1 ⟨rfl, hb1⟩
  rw [HA.out]
  go_wp2_with fail
  refine (i_workingPoint_yes _ _ _ k _ _ l _ (H.out.below (by go_grown)) HA.out HS.out).mono ?_
  rintro e w2 ⟨rfl, hb2⟩
  rw [← HN.out, ← HD.out]
  go_wp2_with fail
  refine (i_lowestTerms _ _ _ (by omega) (by omega) (by omega)).mono ?_
  rintro e _ ⟨rfl, m, rfl⟩
  go_wp2
  go_ret3
  refine ⟨rfl, ?_⟩
  have z1 := hb1.size
  have z2 := hb2.size
  repeat' (first | (with_reducible exact Below.refl _ _) | (with_reducible assumption) | (with_reducible refine bstep ?_ (by with_reducible assumption)) | (with_reducible refine Below.alloc ?_ ?_ _) | (with_reducible refine Below.setCell ?_ ?_ _) | (with_reducible refine Below.drew ?_) | (with_reducible refine below_drewN ?_ _) | omega | (simp only [World.size_alloc, World.size_setCell, World.size_drew]; omega) | (simp; omega))

theorem s_WorkingHead_not (a : Option Addr) (n c : Nat) (lift slope : Int) (l : List Pt) (w : World) (h : PAt w a n l) (hn : n ≤ 1048576) (hv : ¬ ∃ k, works l n lift slope k) :
    Calls Try.prog 30 #[.slice a n c, .int .i64 lift, .int .i64 slope] w fun e w' => e = .returned (.tuple #[.int .i64 0, .int .i64 0, .bool false]) ∧ Below w.heap.size w w' := by
  have H := hid h
  have HV := hid hv
  clear h hv
  go_enter Try.func30, Try.ntmps30
  go_wp2_with fail
  refine (s_WorkingPoint_not _ _ _ _ _ l _ H.out (by omega) HV.out).mono ?_
  rintro e w1 ⟨rfl, hb1⟩
  go_wp2
  go_ret3
  exact ⟨rfl, hb1⟩

set_option maxHeartbeats 1000000 in
theorem s_WorkingHead_is (a : Option Addr) (n c k : Nat) (lift slope N D : Int) (l : List Pt) (w : World) (h : PAt w a n l) (hv : works l n lift slope k) (hN : N = lowN (wkN l k lift) (wkD l k slope)) (hD : D = lowD (wkN l k lift) (wkD l k slope)) :
    Calls Try.prog 30 #[.slice a n c, .int .i64 lift, .int .i64 slope] w fun e w' => e = .returned (.tuple #[.int .i64 (lowN (lift * D + slope * N) D), .int .i64 (lowD (lift * D + slope * N) D), .bool true]) ∧ Below w.heap.size w w' := by
  have H := hid h
  have HV := hid hv
  have hn := good_len (asked_iff hv.1).1 h.1
  obtain ⟨b1, b2, b3⟩ := wk_bounds h.1 hv
  obtain ⟨-, r1, r2⟩ := asked_iff hv.1
  have c1 := lowN_fine (a := wkN l k lift) (B := 2000000) b1 b3
  have c2 := lowD_le (a := wkN l k lift) b1
  have c3 := lowD_pos (a := wkN l k lift) b1
  rw [← hN] at c1
  rw [← hD] at c2 c3
  have d1 := mul_in (x := lift) (y := D) (A := 1000) (B := 1001000) (by omega) (by omega)
  have d2 := mul_in (x := slope) (y := N) (A := 1000) (B := 2000000) (by omega) (by omega)
  simp only [Int.reduceMul] at d1 d2
  have HN := hid hN
  have HD := hid hD
  clear h hv hN hD
  go_enter Try.func30, Try.ntmps30
  go_wp2_with fail
  refine (s_WorkingPoint_is _ _ _ k _ _ l _ H.out HV.out).mono ?_
  rintro e w1 ⟨rfl, hb1⟩
  rw [← HN.out, ← HD.out]
  go_wp2_with fail
  refine (s_l3Reduce _ _ _ (by omega) (by omega) (by omega)).mono ?_
  rintro e _ ⟨rfl, m, rfl⟩
  go_wp2
  go_ret3
  exact ⟨rfl, below_drewN hb1 _⟩

end Go.Proofs.Ytpcbeapajlchgaa
