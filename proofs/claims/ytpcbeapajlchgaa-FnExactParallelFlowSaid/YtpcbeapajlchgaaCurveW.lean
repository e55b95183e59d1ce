/-
  Curves: FlowAt.
-/
import Derived.Test.YtpcbeapajlchgaaCurveW0
import Derived.Test.YtpcbeapajlchgaaCalm
set_option linter.unusedVariables false
set_option linter.unusedSimpArgs false
namespace Go.Proofs.Ytpcbeapajlchgaa
open Go.RowKit

/-- What is kept while the last head and the first one are read. -/
abbrev FlowS (l : List Pt) (n b0 off0 : Nat) (w w' : World) : Prop := Below w.heap.size w w' ∧ w'.cell? ⟨b0, off0 + (n - 1) * 2 + 1, none⟩ = some (.int .i64 (pt l (n - 1)).2) ∧ w'.cell? ⟨b0, off0 + 1, none⟩ = some (.int .i64 (pt l 0).2)
theorem FlowS.keep {l : List Pt} {n b0 off0 : Nat} {w : World} (wy w5 : World) (h : FlowS l n b0 off0 w wy) (hb : Below wy.heap.size wy w5) : FlowS l n b0 off0 w w5 :=
  let ⟨h0, x0, x1⟩ := h
  ⟨bstep h0 hb, (hb.cell (World.block_lt_of_cell? wy _ x0)).trans x0, (hb.cell (World.block_lt_of_cell? wy _ x1)).trans x1⟩

set_option maxHeartbeats 1000000 in
theorem i_FlowAt_yes (a : Option Addr) (n c k : Nat) (q : Int) (l : List Pt) (w : World) (h : PAt w a n l) (hg : goodCurve l = true) (hq0 : hasH l n q = true) (hk : Seg n (fun j => (pt l j).2 ≤ q) k) :
    Calls Try.prog 25 #[.slice a n c, .int .i64 q] w fun e w' => e = .returned (.tuple #[.int .i64 (lowN (flN l k q) (flD l k)), .int .i64 (lowD (flN l k q) (flD l k)), .bool true]) ∧ Below w.heap.size w w' := by
  have hp := pt_flow hg h.1 (k := n - 1) (by have := good_len hg h.1; omega)
  have hp0 := pt_flow hg h.1 (k := 0) (by have := good_len hg h.1; omega)
  have hq2 : 0 ≤ q ∧ q ≤ 1000 := by have := inR_iff.1 hq0; omega
  have HK := hid hk
  have hl := good_len hg h.1
  have hw : IntKind.i64.wrap ((n : Int) - 1) = ((n - 1 : Nat) : Int) := (IntWalk.i64_in _ (by omega)).trans (by omega)
  have hn2 : n - 1 < n := by omega
  have hn3 : 0 < n := by omega
  obtain ⟨b0, off0, rfl, hbw, x0, x1⟩ := PAt.get h (n - 1) (by omega)
  obtain ⟨b1, off1, e1, _, y0, y1⟩ := PAt.get h 0 (by omega)
  cases e1
  simp only [Nat.zero_mul, Nat.add_zero] at y1
  have H := hid h
  have HG := hid hg
  have HQ := hid (show inR q (pt l (n - 1)).2 (pt l 0).2 = true from hq0)
  have X := hid (show FlowS l n b0 off0 w w.drew from ⟨(Below.refl _ _).drew, x1, y1⟩)
  clear h hg hq0 hp hp0 hk x0 x1 y0 y1
  go_enter Try.func25, Try.ntmps25
  go_upto_region 1 with fail
  refine wp_region_calm (C := (fun w' => Below w.heap.size w w' ∧ w'.cell? ⟨b0, off0 + (n - 1) * 2 + 1, none⟩ = some (.int .i64 (pt l (n - 1)).2) ∧ w'.cell? ⟨b0, off0 + 1, none⟩ = some (.int .i64 (pt l 0).2))) (by kernel_rfl) (by kernel_rfl) (X.out) ?_
  repeat
    first
      | go_big_quiet_skip
      | (go_big_quiet_want
         first
           | (unfold Oper.quiet
              apply Exists.intro
              refine ⟨fun wq hq => ?_, ?_⟩
              · (try dsimp only at hq
                 simp [go_sem, Oper.quietAt, Oper.quietUpon, BigFrame.eval_const, BigFrame.eval_global, BigFrame.eval_func, ↓IntWalk.iteOmega, *]
                 first | done | rfl | (first | (refine calm_call hq FlowS.keep (i_IsValidCurve _ _ _ l _ (H.out.below hq.1) (by omega)) (by rw [HG.out])) | (refine calm_same hq (i_inside _ _ _ _) (by rw [HQ.out]))))
              simp only [Act.put, List.setIfInBounds_toArray, List.set_cons_succ, List.set_cons_zero]
              go_big_quiet_on))
  refine wpQuiet_nil ?_
  intro wc hcalm
  try dsimp only at hcalm
  obtain ⟨hb1, -, -⟩ := hcalm
  have hz := hb1.size
  go_wp2_with fail
  refine (i_flowAt _ _ _ _ _ l _ (H.out.below hb1) HG.out HK.out hq2).mono ?_
  rintro e w2 ⟨rfl, hb2⟩
  have hz2 := hb2.size
  go_wp2
  go_quiet (fail)
  go_wp2
  go_ret3
  refine ⟨rfl, ?_⟩
  repeat' (first | (with_reducible exact Below.refl _ _) | (with_reducible assumption) | (with_reducible refine bstep ?_ (by with_reducible assumption)) | (with_reducible refine Below.alloc ?_ ?_ _) | (with_reducible refine Below.setCell ?_ ?_ _) | (with_reducible refine Below.drew ?_) | (with_reducible refine below_drewN ?_ _) | omega | (simp only [World.size_alloc, World.size_setCell, World.size_drew]; omega) | (simp; omega))

set_option maxHeartbeats 1000000 in
theorem i_FlowAt_no (a : Option Addr) (n c : Nat) (q : Int) (l : List Pt) (w : World) (h : PAt w a n l) (hn : n ≤ 1048576) (hg : (goodCurve l && hasH l n q) = false) :
    Calls Try.prog 25 #[.slice a n c, .int .i64 q] w fun e w' => e = .returned (.tuple #[.int .i64 0, .int .i64 0, .bool false]) ∧ Below w.heap.size w w' := by
  cases h1 : goodCurve l
  · have H := hid h
    have HG := hid h1
    clear h hg h1
    go_enter Try.func25, Try.ntmps25
    go_upto_region 1 with fail
    refine wp_region_calm (C := (fun w' => Below w.heap.size w w')) (by kernel_rfl) (by kernel_rfl) ((Below.refl _ _).drew) ?_
    repeat
      first
        | go_big_quiet_skip
        | (go_big_quiet_want
           first
             | (unfold Oper.quiet
                apply Exists.intro
                refine ⟨fun wq hq => ?_, ?_⟩
                · (try dsimp only at hq
                   simp [go_sem, Oper.quietAt, Oper.quietUpon, BigFrame.eval_const, BigFrame.eval_global, BigFrame.eval_func, ↓IntWalk.iteOmega, *]
                   first | done | rfl | (first | (refine calm_call hq (fun _ _ h1 h2 => bstep h1 h2) (i_IsValidCurve _ _ _ l _ (H.out.below hq) (by omega)) (by rw [HG.out]))))
                simp only [Act.put, List.setIfInBounds_toArray, List.set_cons_succ, List.set_cons_zero]
                go_big_quiet_on))
    refine wpQuiet_nil ?_
    intro wc hcalm
    try dsimp only at hcalm
    go_wp2
    go_ret3
    exact ⟨rfl, hcalm⟩
  · have h2 : hasH l n q = false := by rw [h1] at hg; exact hg
    clear hg
    have hl := good_len h1 h.1
    have hw : IntKind.i64.wrap ((n : Int) - 1) = ((n - 1 : Nat) : Int) := (IntWalk.i64_in _ (by omega)).trans (by omega)
    have hn2 : n - 1 < n := by omega
    have hn3 : 0 < n := by omega
    obtain ⟨b0, off0, rfl, hbw, x0, x1⟩ := PAt.get h (n - 1) (by omega)
    obtain ⟨b1, off1, e1, _, y0, y1⟩ := PAt.get h 0 (by omega)
    cases e1
    simp only [Nat.zero_mul, Nat.add_zero] at y1
    have H := hid h
    have HG := hid h1
    have HQ := hid (show inR q (pt l (n - 1)).2 (pt l 0).2 = false from h2)
    have X := hid (show FlowS l n b0 off0 w w.drew from ⟨(Below.refl _ _).drew, x1, y1⟩)
    clear h h1 h2 x0 x1 y0 y1
    go_enter Try.func25, Try.ntmps25
    go_upto_region 1 with fail
    refine wp_region_calm (C := (fun w' => Below w.heap.size w w' ∧ w'.cell? ⟨b0, off0 + (n - 1) * 2 + 1, none⟩ = some (.int .i64 (pt l (n - 1)).2) ∧ w'.cell? ⟨b0, off0 + 1, none⟩ = some (.int .i64 (pt l 0).2))) (by kernel_rfl) (by kernel_rfl) (X.out) ?_
    repeat
      first
        | go_big_quiet_skip
        | (go_big_quiet_want
           first
             | (unfold Oper.quiet
                apply Exists.intro
                refine ⟨fun wq hq => ?_, ?_⟩
                · (try dsimp only at hq
                   simp [go_sem, Oper.quietAt, Oper.quietUpon, BigFrame.eval_const, BigFrame.eval_global, BigFrame.eval_func, ↓IntWalk.iteOmega, *]
                   first | done | rfl | (first | (refine calm_call hq FlowS.keep (i_IsValidCurve _ _ _ l _ (H.out.below hq.1) (by omega)) (by rw [HG.out])) | (refine calm_same hq (i_inside _ _ _ _) (by rw [HQ.out]))))
                simp only [Act.put, List.setIfInBounds_toArray, List.set_cons_succ, List.set_cons_zero]
                go_big_quiet_on))
    refine wpQuiet_nil ?_
    intro wc hcalm
    try dsimp only at hcalm
    obtain ⟨hb1, -, -⟩ := hcalm

    go_wp2
    go_ret3
    exact ⟨rfl, hb1⟩

set_option maxHeartbeats 1000000 in
theorem s_FlowAt_yes (a : Option Addr) (n c k : Nat) (q : Int) (l : List Pt) (w : World) (h : PAt w a n l) (hg : goodCurve l = true) (hq0 : hasH l n q = true) (hk : Seg n (fun j => (pt l j).2 ≤ q) k) :
    Calls Try.prog 24 #[.slice a n c, .int .i64 q] w fun e w' => e = .returned (.tuple #[.int .i64 (lowN (flN l k q) (flD l k)), .int .i64 (lowD (flN l k q) (flD l k)), .bool true]) ∧ Below w.heap.size w w' := by
  have hp := pt_flow hg h.1 (k := n - 1) (by have := good_len hg h.1; omega)
  have hp0 := pt_flow hg h.1 (k := 0) (by have := good_len hg h.1; omega)
  have hq2 : 0 ≤ q ∧ q ≤ 1000 := by have := inR_iff.1 hq0; omega
  have HK := hid hk
  have hl := good_len hg h.1
  have hw : IntKind.i64.wrap ((n : Int) - 1) = ((n - 1 : Nat) : Int) := (IntWalk.i64_in _ (by omega)).trans (by omega)
  have hn2 : n - 1 < n := by omega
  have hn3 : 0 < n := by omega
  obtain ⟨b0, off0, rfl, hbw, x0, x1⟩ := PAt.get h (n - 1) (by omega)
  obtain ⟨b1, off1, e1, _, y0, y1⟩ := PAt.get h 0 (by omega)
  cases e1
  simp only [Nat.zero_mul, Nat.add_zero] at y1
  have H := hid h
  have HG := hid hg
  have HQ := hid (show inR q (pt l (n - 1)).2 (pt l 0).2 = true from hq0)
  have X := hid (show FlowS l n b0 off0 w w.drew from ⟨(Below.refl _ _).drew, x1, y1⟩)
  clear h hg hq0 hp hp0 hk x0 x1 y0 y1
  go_enter Try.func24, Try.ntmps24
  go_upto_region 1 with fail
  refine wp_region_calm (C := (fun w' => Below w.heap.size w w' ∧ w'.cell? ⟨b0, off0 + (n - 1) * 2 + 1, none⟩ = some (.int .i64 (pt l (n - 1)).2) ∧ w'.cell? ⟨b0, off0 + 1, none⟩ = some (.int .i64 (pt l 0).2))) (by kernel_rfl) (by kernel_rfl) (X.out) ?_
  repeat
    first
      | go_big_quiet_skip
      | (go_big_quiet_want
         first
           | (unfold Oper.quiet
              apply Exists.intro
              refine ⟨fun wq hq => ?_, ?_⟩
              · (try dsimp only at hq
                 simp [go_sem, Oper.quietAt, Oper.quietUpon, BigFrame.eval_const, BigFrame.eval_global, BigFrame.eval_func, ↓IntWalk.iteOmega, *]
                 first | done | rfl | (first | (refine calm_call hq FlowS.keep (s_l7Good _ _ _ l _ (H.out.below hq.1) (by omega)) (by rw [HG.out])) | (refine calm_same hq (s_l1In _ _ _ _) (by rw [HQ.out]))))
              simp only [Act.put, List.setIfInBounds_toArray, List.set_cons_succ, List.set_cons_zero]
              go_big_quiet_on))
  refine wpQuiet_nil ?_
  intro wc hcalm
  try dsimp only at hcalm
  obtain ⟨hb1, -, -⟩ := hcalm
  have hz := hb1.size
  go_wp2_with fail
  refine (s_l7Flow _ _ _ _ _ l _ (H.out.below hb1) HG.out HK.out hq2).mono ?_
  rintro e w2 ⟨rfl, hb2⟩
  have hz2 := hb2.size
  go_wp2
  go_ret3
  refine ⟨rfl, ?_⟩
  repeat' (first | (with_reducible exact Below.refl _ _) | (with_reducible assumption) | (with_reducible refine bstep ?_ (by with_reducible assumption)) | (with_reducible refine Below.alloc ?_ ?_ _) | (with_reducible refine Below.setCell ?_ ?_ _) | (with_reducible refine Below.drew ?_) | (with_reducible refine below_drewN ?_ _) | omega | (simp only [World.size_alloc, World.size_setCell, World.size_drew]; omega) | (simp; omega))

set_option maxHeartbeats 1000000 in
theorem s_FlowAt_no (a : Option Addr) (n c : Nat) (q : Int) (l : List Pt) (w : World) (h : PAt w a n l) (hn : n ≤ 1048576) (hg : (goodCurve l && hasH l n q) = false) :
    Calls Try.prog 24 #[.slice a n c, .int .i64 q] w fun e w' => e = .returned (.tuple #[.int .i64 0, .int .i64 0, .bool false]) ∧ Below w.heap.size w w' := by
  cases h1 : goodCurve l
  · have H := hid h
    have HG := hid h1
    clear h hg h1
    go_enter Try.func24, Try.ntmps24
    go_upto_region 1 with fail
    refine wp_region_calm (C := (fun w' => Below w.heap.size w w')) (by kernel_rfl) (by kernel_rfl) ((Below.refl _ _).drew) ?_
    repeat
      first
        | go_big_quiet_skip
        | (go_big_quiet_want
           first
             | (unfold Oper.quiet
                apply Exists.intro
                refine ⟨fun wq hq => ?_, ?_⟩
                · (try dsimp only at hq
                   simp [go_sem, Oper.quietAt, Oper.quietUpon, BigFrame.eval_const, BigFrame.eval_global, BigFrame.eval_func, ↓IntWalk.iteOmega, *]
                   first | done | rfl | (first | (refine calm_call hq (fun _ _ h1 h2 => bstep h1 h2) (s_l7Good _ _ _ l _ (H.out.below hq) (by omega)) (by rw [HG.out]))))
                simp only [Act.put, List.setIfInBounds_toArray, List.set_cons_succ, List.set_cons_zero]
                go_big_quiet_on))
    refine wpQuiet_nil ?_
    intro wc hcalm
    try dsimp only at hcalm
    go_wp2
    go_ret3
    exact ⟨rfl, hcalm⟩
  · have h2 : hasH l n q = false := by rw [h1] at hg; exact hg
    clear hg
    have hl := good_len h1 h.1
    have hw : IntKind.i64.wrap ((n : Int) - 1) = ((n - 1 : Nat) : Int) := (IntWalk.i64_in _ (by omega)).trans (by omega)
    have hn2 : n - 1 < n := by omega
    have hn3 : 0 < n := by omega
    obtain ⟨b0, off0, rfl, hbw, x0, x1⟩ := PAt.get h (n - 1) (by omega)
    obtain ⟨b1, off1, e1, _, y0, y1⟩ := PAt.get h 0 (by omega)
    cases e1
    simp only [Nat.zero_mul, Nat.add_zero] at y1
    have H := hid h
    have HG := hid h1
    have HQ := hid (show inR q (pt l (n - 1)).2 (pt l 0).2 = false from h2)
    have X := hid (show FlowS l n b0 off0 w w.drew from ⟨(Below.refl _ _).drew, x1, y1⟩)
    clear h h1 h2 x0 x1 y0 y1
    go_enter Try.func24, Try.ntmps24
    go_upto_region 1 with fail
    refine wp_region_calm (C := (fun w' => Below w.heap.size w w' ∧ w'.cell? ⟨b0, off0 + (n - 1) * 2 + 1, none⟩ = some (.int .i64 (pt l (n - 1)).2) ∧ w'.cell? ⟨b0, off0 + 1, none⟩ = some (.int .i64 (pt l 0).2))) (by kernel_rfl) (by kernel_rfl) (X.out) ?_
    repeat
      first
        | go_big_quiet_skip
        | (go_big_quiet_want
           first
             | (unfold Oper.quiet
                apply Exists.intro
                refine ⟨fun wq hq => ?_, ?_⟩
                · (try dsimp only at hq
                   simp [go_sem, Oper.quietAt, Oper.quietUpon, BigFrame.eval_const, BigFrame.eval_global, BigFrame.eval_func, ↓IntWalk.iteOmega, *]
                   first | done | rfl | (first | (refine calm_call hq FlowS.keep (s_l7Good _ _ _ l _ (H.out.below hq.1) (by omega)) (by rw [HG.out])) | (refine calm_same hq (s_l1In _ _ _ _) (by rw [HQ.out]))))
                simp only [Act.put, List.setIfInBounds_toArray, List.set_cons_succ, List.set_cons_zero]
                go_big_quiet_on))
    refine wpQuiet_nil ?_
    intro wc hcalm
    try dsimp only at hcalm
    obtain ⟨hb1, -, -⟩ := hcalm

    go_wp2
    go_ret3
    exact ⟨rfl, hb1⟩

end Go.Proofs.Ytpcbeapajlchgaa
