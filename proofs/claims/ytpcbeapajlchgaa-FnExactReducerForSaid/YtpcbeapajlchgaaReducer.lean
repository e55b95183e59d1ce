/-
  ReducerFor: the rule of a zone; the law.
-/
import Derived.Test.YtpcbeapajlchgaaNums
import Derived.Test.YtpcbeapajlchgaaLift
set_option linter.unusedVariables false
set_option linter.unusedSimpArgs false
namespace Go.Proofs.Ytpcbeapajlchgaa
open Go.ChangeShapes Go.WideShapes Go.ChangeAt Go.RowKit Go.Joins

def goodRule (a b : Int) : Bool := decide (1 ≤ a ∧ a ≤ b ∧ b ≤ 200)
theorem goodRule_iff {a b : Int} : goodRule a b = true ↔ 1 ≤ a ∧ a ≤ b ∧ b ≤ 200 := by simp [goodRule]

theorem i_IsValidRule (a b : Int) (w : World) : Calls Try.prog 85 #[.agg #[.int .i64 a, .int .i64 b]] w fun e w' => e = .returned (.bool (goodRule a b)) ∧ Below w.heap.size w w' := by
  go_enter Try.func85, Try.ntmps85
  go_wp2
  all_goals go_ret
  all_goals refine ⟨ret_bool ?_, by go_grown⟩
  all_goals (rw [Bool.eq_iff_iff, goodRule_iff]; (try simp only [decide_eq_true_eq, Bool.false_eq_true, false_iff]); omega)
theorem s_l12Rule (a b : Int) (w : World) : Calls Try.prog 82 #[.agg #[.int .i64 a, .int .i64 b]] w fun e w' => e = .returned (.bool (goodRule a b)) ∧ Below w.heap.size w w' := by
  go_enter Try.func82, Try.ntmps82
  go_wp2
  all_goals go_ret
  all_goals refine ⟨ret_bool ?_, by go_grown⟩
  all_goals (rw [Bool.eq_iff_iff, goodRule_iff]; (try simp only [decide_eq_true_eq, Bool.false_eq_true, false_iff]); omega)
theorem i_isZoneLevel (n : Int) (w : World) : Calls Try.prog 86 #[.int .i64 n] w fun e w' => e = .returned (.bool (inR n 0 2000)) ∧ w = w' := by
  go_enter Try.func86, Try.ntmps86
  go_wp2_with fail
  refine (i_inside _ _ _ _).mono ?_
  rintro e w' ⟨rfl, rfl⟩
  go_wp2
  go_ret
  exact ⟨rfl, rfl⟩
theorem s_l12Level (n : Int) (w : World) : Calls Try.prog 83 #[.int .i64 n] w fun e w' => e = .returned (.bool (inR n 0 2000)) ∧ w = w' := by
  go_enter Try.func83, Try.ntmps83
  go_wp2_with fail
  refine (s_l1In _ _ _ _).mono ?_
  rintro e w' ⟨rfl, rfl⟩
  go_wp2
  go_ret
  exact ⟨rfl, rfl⟩
theorem s_l12Elevation (n : Int) (w : World) : Calls Try.prog 81 #[.int .i64 n] w fun e w' => e = .returned (.bool (inR n 0 1000)) ∧ w = w' := by
  go_enter Try.func81, Try.ntmps81
  go_wp2_with fail
  refine (s_l1In _ _ _ _).mono ?_
  rintro e w' ⟨rfl, rfl⟩
  go_wp2
  go_ret
  exact ⟨rfl, rfl⟩

theorem l_toZoneRule (a b : Int) (w : World) : Calls Try.prog 51 #[.agg #[.int .i64 a, .int .i64 b]] w fun e w' => e = .returned (.agg #[.int .i64 a, .int .i64 b]) ∧ Below w.heap.size w w' := by
  go_enter Try.func51, Try.ntmps51
  go_wp2
  go_returns
  exact ⟨rfl, by go_grown⟩

set_option maxHeartbeats 1000000
theorem i_ReducerFor_yes (e a b v : Int) (w : World) (he : inR e 0 1000 = true) (hr : goodRule a b = true) (hv : inR v 0 2000 = true) (ha : a ≤ v - e) :
    Calls Try.prog 52 #[.int .i64 e, .agg #[.int .i64 a, .int .i64 b], .int .i64 v] w fun en w' => en = .returned (.tuple #[.int .i64 (max (v - e - b) 0), .bool true]) ∧ Below w.heap.size w w' := by
  have h1 := inR_iff.1 he
  have h2 := inR_iff.1 hv
  have h3 := goodRule_iff.1 hr
  have E := hid he
  have R := hid hr
  have V := hid hv
  clear he hr hv
  go_enter Try.func52, Try.ntmps52
  go_wp2_with fail
  refine (i_inside _ _ _ _).mono ?_
  rintro en _ ⟨rfl, rfl⟩
  rw [E.out]
  go_wp2_with fail
  refine (i_IsValidRule _ _ _).mono ?_
  rintro en w1 ⟨rfl, hb⟩
  rw [R.out]
  obtain ⟨hc, hf⟩ := bcell hb
  have hz : w.heap.size < w1.heap.size := by have := hb.size; simp at this; omega
  have m0 : w1.cell? ⟨w.heap.size, 0, none⟩ = some (.int .i64 a) := by rw [hc _ _ (by simp)]; simp [go_sem]
  have m1 : w1.cell? ⟨w.heap.size, 1, none⟩ = some (.int .i64 b) := by rw [hc _ _ (by simp)]; simp [go_sem]
  have HB := hid (bstep ((Below.refl _ _).alloc (Nat.le_refl _) _) hb)
  clear hc hf hb
  go_wp2_with fail
  refine (i_isZoneLevel _ _).mono ?_
  rintro en _ ⟨rfl, rfl⟩
  rw [V.out]
  (go_wp2; all_goals go_ret2; all_goals refine ⟨?_, HB.out⟩; all_goals (show Ending.returned (.tuple #[.int .i64 _, .bool true]) = _; exact ret_int_bool (by omega) rfl))
theorem i_ReducerFor_no (e a b v : Int) (w : World) (hn : (inR e 0 1000 && goodRule a b && inR v 0 2000 && decide (a ≤ v - e)) = false) :
    Calls Try.prog 52 #[.int .i64 e, .agg #[.int .i64 a, .int .i64 b], .int .i64 v] w fun en w' => en = .returned (.tuple #[.int .i64 0, .bool false]) ∧ Below w.heap.size w w' := by
  cases he : inR e 0 1000
  · have E := hid he
    clear hn he
    go_enter Try.func52, Try.ntmps52
    go_wp2_with fail
    refine (i_inside _ _ _ _).mono ?_
    rintro en _ ⟨rfl, rfl⟩
    rw [E.out]
    go_wp2
    go_ret2
    exact ⟨rfl, by go_grown⟩
  cases hr : goodRule a b
  · have E := hid he
    have R := hid hr
    clear hn he hr
    go_enter Try.func52, Try.ntmps52
    go_wp2_with fail
    refine (i_inside _ _ _ _).mono ?_
    rintro en _ ⟨rfl, rfl⟩
    rw [E.out]
    go_wp2_with fail
    refine (i_IsValidRule _ _ _).mono ?_
    rintro en w1 ⟨rfl, hb⟩
    rw [R.out]
    go_wp2
    go_ret2
    exact ⟨rfl, bstep ((Below.refl _ _).alloc (Nat.le_refl _) _) hb⟩
  cases hv : inR v 0 2000
  · have E := hid he
    have R := hid hr
    have V := hid hv
    clear hn he hr hv
    go_enter Try.func52, Try.ntmps52
    go_wp2_with fail
    refine (i_inside _ _ _ _).mono ?_
    rintro en _ ⟨rfl, rfl⟩
    rw [E.out]
    go_wp2_with fail
    refine (i_IsValidRule _ _ _).mono ?_
    rintro en w1 ⟨rfl, hb⟩
    rw [R.out]
    go_wp2_with fail
    refine (i_isZoneLevel _ _).mono ?_
    rintro en _ ⟨rfl, rfl⟩
    rw [V.out]
    go_wp2
    go_ret2
    exact ⟨rfl, bstep ((Below.refl _ _).alloc (Nat.le_refl _) _) hb⟩
  · have ha : v - e < a := by simp [he, hr, hv] at hn; omega
    have h1 := inR_iff.1 he
    have h2 := inR_iff.1 hv
    have h3 := goodRule_iff.1 hr
    have E := hid he
    have R := hid hr
    have V := hid hv
    clear he hr hv hn
    go_enter Try.func52, Try.ntmps52
    go_wp2_with fail
    refine (i_inside _ _ _ _).mono ?_
    rintro en _ ⟨rfl, rfl⟩
    rw [E.out]
    go_wp2_with fail
    refine (i_IsValidRule _ _ _).mono ?_
    rintro en w1 ⟨rfl, hb⟩
    rw [R.out]
    obtain ⟨hc, hf⟩ := bcell hb
    have hz : w.heap.size < w1.heap.size := by have := hb.size; simp at this; omega
    have m0 : w1.cell? ⟨w.heap.size, 0, none⟩ = some (.int .i64 a) := by rw [hc _ _ (by simp)]; simp [go_sem]
    have HB := hid (bstep ((Below.refl _ _).alloc (Nat.le_refl _) _) hb)
    clear hc hf hb
    go_wp2_with fail
    refine (i_isZoneLevel _ _).mono ?_
    rintro en _ ⟨rfl, rfl⟩
    rw [V.out]
    go_wp2
    go_ret2
    exact ⟨rfl, HB.out⟩
theorem s_ReducerFor_yes (e a b v : Int) (w : World) (he : inR e 0 1000 = true) (hr : goodRule a b = true) (hv : inR v 0 2000 = true) (ha : a ≤ v - e) :
    Calls Try.prog 50 #[.int .i64 e, .agg #[.int .i64 a, .int .i64 b], .int .i64 v] w fun en w' => en = .returned (.tuple #[.int .i64 (max (v - e - b) 0), .bool true]) ∧ Below w.heap.size w w' := by
  have h1 := inR_iff.1 he
  have h2 := inR_iff.1 hv
  have h3 := goodRule_iff.1 hr
  have E := hid he
  have R := hid hr
  have V := hid hv
  clear he hr hv
  go_enter Try.func50, Try.ntmps50
  go_wp2_with fail
  refine (s_l12Elevation _ _).mono ?_
  rintro en _ ⟨rfl, rfl⟩
  rw [E.out]
  go_wp2_with fail
  refine (s_l12Rule _ _ _).mono ?_
  rintro en w1 ⟨rfl, hb⟩
  rw [R.out]
  obtain ⟨hc, hf⟩ := bcell hb
  have hz : w.heap.size < w1.heap.size := by have := hb.size; simp at this; omega
  have m0 : w1.cell? ⟨w.heap.size, 0, none⟩ = some (.int .i64 a) := by rw [hc _ _ (by simp)]; simp [go_sem]
  have m1 : w1.cell? ⟨w.heap.size, 1, none⟩ = some (.int .i64 b) := by rw [hc _ _ (by simp)]; simp [go_sem]
  have HB := hid (bstep ((Below.refl _ _).alloc (Nat.le_refl _) _) hb)
  clear hc hf hb
  go_wp2_with fail
  refine (s_l12Level _ _).mono ?_
  rintro en _ ⟨rfl, rfl⟩
  rw [V.out]
  (go_wp2_with fail; refine (s_l1Most _ _ _).mono ?_; rintro en _ ⟨rfl, rfl⟩; go_wp2; go_ret2; refine ⟨?_, HB.out⟩; show Ending.returned (.tuple #[.int .i64 _, .bool true]) = _; exact ret_int_bool (by omega) rfl)
theorem s_ReducerFor_no (e a b v : Int) (w : World) (hn : (inR e 0 1000 && goodRule a b && inR v 0 2000 && decide (a ≤ v - e)) = false) :
    Calls Try.prog 50 #[.int .i64 e, .agg #[.int .i64 a, .int .i64 b], .int .i64 v] w fun en w' => en = .returned (.tuple #[.int .i64 0, .bool false]) ∧ Below w.heap.size w w' := by
  cases he : inR e 0 1000
  · have E := hid he
    clear hn he
    go_enter Try.func50, Try.ntmps50
    go_wp2_with fail
    refine (s_l12Elevation _ _).mono ?_
    rintro en _ ⟨rfl, rfl⟩
    rw [E.out]
    go_wp2
    go_ret2
    exact ⟨rfl, by go_grown⟩
  cases hr : goodRule a b
  · have E := hid he
    have R := hid hr
    clear hn he hr
    go_enter Try.func50, Try.ntmps50
    go_wp2_with fail
    refine (s_l12Elevation _ _).mono ?_
    rintro en _ ⟨rfl, rfl⟩
    rw [E.out]
    go_wp2_with fail
    refine (s_l12Rule _ _ _).mono ?_
    rintro en w1 ⟨rfl, hb⟩
    rw [R.out]
    go_wp2
    go_ret2
    exact ⟨rfl, bstep ((Below.refl _ _).alloc (Nat.le_refl _) _) hb⟩
  cases hv : inR v 0 2000
  · have E := hid he
    have R := hid hr
    have V := hid hv
    clear hn he hr hv
    go_enter Try.func50, Try.ntmps50
    go_wp2_with fail
    refine (s_l12Elevation _ _).mono ?_
    rintro en _ ⟨rfl, rfl⟩
    rw [E.out]
    go_wp2_with fail
    refine (s_l12Rule _ _ _).mono ?_
    rintro en w1 ⟨rfl, hb⟩
    rw [R.out]
    go_wp2_with fail
    refine (s_l12Level _ _).mono ?_
    rintro en _ ⟨rfl, rfl⟩
    rw [V.out]
    go_wp2
    go_ret2
    exact ⟨rfl, bstep ((Below.refl _ _).alloc (Nat.le_refl _) _) hb⟩
  · have ha : v - e < a := by simp [he, hr, hv] at hn; omega
    have h1 := inR_iff.1 he
    have h2 := inR_iff.1 hv
    have h3 := goodRule_iff.1 hr
    have E := hid he
    have R := hid hr
    have V := hid hv
    clear he hr hv hn
    go_enter Try.func50, Try.ntmps50
    go_wp2_with fail
    refine (s_l12Elevation _ _).mono ?_
    rintro en _ ⟨rfl, rfl⟩
    rw [E.out]
    go_wp2_with fail
    refine (s_l12Rule _ _ _).mono ?_
    rintro en w1 ⟨rfl, hb⟩
    rw [R.out]
    obtain ⟨hc, hf⟩ := bcell hb
    have hz : w.heap.size < w1.heap.size := by have := hb.size; simp at this; omega
    have m0 : w1.cell? ⟨w.heap.size, 0, none⟩ = some (.int .i64 a) := by rw [hc _ _ (by simp)]; simp [go_sem]
    have HB := hid (bstep ((Below.refl _ _).alloc (Nat.le_refl _) _) hb)
    clear hc hf hb
    go_wp2_with fail
    refine (s_l12Level _ _).mono ?_
    rintro en _ ⟨rfl, rfl⟩
    rw [V.out]
    go_wp2
    go_ret2
    exact ⟨rfl, HB.out⟩

theorem law_ReducerFor (e a b v : Int) (w : World) :
    Calls Try.prog 14 #[.int .i64 e, .agg #[.int .i64 a, .int .i64 b], .int .i64 v] w fun en w' => en = .returned (.bool true) ∧ Below w.heap.size w w' := by
  by_cases hh : (inR e 0 1000 && goodRule a b && inR v 0 2000 && decide (a ≤ v - e)) = true
  · have h : inR e 0 1000 = true ∧ goodRule a b = true ∧ inR v 0 2000 = true ∧ a ≤ v - e := by simpa [Bool.and_eq_true, and_assoc] using hh
    have HS := hid (fun w => s_ReducerFor_yes e a b v w h.1 h.2.1 h.2.2.1 h.2.2.2)
    have HI := hid (fun w => i_ReducerFor_yes e a b v w h.1 h.2.1 h.2.2.1 h.2.2.2)
    have hx : (max (v - e - b) 0 != max (v - e - b) 0) = false := by simp
    clear h hh
    go_enter Try.func14, Try.ntmps14
    go_wp2_with fail
    refine (l_toZoneRule _ _ _).mono ?_
    rintro e w1 ⟨rfl, hb1⟩
    obtain ⟨hc_w1, hf_w1⟩ := bcell hb1
    have hz_w1_0 : w.heap.size < w1.heap.size := by have := hb1.size; (try simp only [World.size_alloc, World.size_setCell, World.size_drew] at this); omega
    go_wp2_with fail
    refine (HS.out _).mono ?_
    rintro e w2 ⟨rfl, hb2⟩
    obtain ⟨hc_w2, hf_w2⟩ := bcell hb2
    have hz_w2_0 : w.heap.size < w2.heap.size := by have := hb2.size; (try simp only [World.size_alloc, World.size_setCell, World.size_drew] at this); omega
    go_wp2_with fail
    refine (l_toZoneRule _ _ _).mono ?_
    rintro e w3 ⟨rfl, hb3⟩
    obtain ⟨hc_w3, hf_w3⟩ := bcell hb3
    have hz_w3_0 : w.heap.size < w3.heap.size := by have := hb3.size; (try simp only [World.size_alloc, World.size_setCell, World.size_drew] at this); omega
    go_wp2_with fail
    refine (HI.out _).mono ?_
    rintro e w4 ⟨rfl, hb4⟩
    obtain ⟨hc_w4, hf_w4⟩ := bcell hb4
    go_wp2
    go_ret
    refine ⟨rfl, ?_⟩
    repeat' (first | (with_reducible exact Below.refl _ _) | (with_reducible assumption) | (with_reducible refine bstep ?_ (by with_reducible assumption)) | (with_reducible refine Below.alloc ?_ ?_ _) | (with_reducible refine Below.setCell ?_ ?_ _) | (with_reducible refine Below.drew ?_) | (with_reducible refine below_drewN ?_ _) | omega | (simp only [World.size_alloc, World.size_setCell, World.size_drew]; omega) | (simp; omega))
  · have HS := hid (fun w => s_ReducerFor_no e a b v w (by simpa using hh))
    have HI := hid (fun w => i_ReducerFor_no e a b v w (by simpa using hh))
    clear hh
    go_enter Try.func14, Try.ntmps14
    go_wp2_with fail
    refine (l_toZoneRule _ _ _).mono ?_
    rintro e w1 ⟨rfl, hb1⟩
    obtain ⟨hc_w1, hf_w1⟩ := bcell hb1
    have hz_w1_0 : w.heap.size < w1.heap.size := by have := hb1.size; (try simp only [World.size_alloc, World.size_setCell, World.size_drew] at this); omega
    go_wp2_with fail
    refine (HS.out _).mono ?_
    rintro e w2 ⟨rfl, hb2⟩
    obtain ⟨hc_w2, hf_w2⟩ := bcell hb2
    have hz_w2_0 : w.heap.size < w2.heap.size := by have := hb2.size; (try simp only [World.size_alloc, World.size_setCell, World.size_drew] at this); omega
    go_wp2_with fail
    refine (l_toZoneRule _ _ _).mono ?_
    rintro e w3 ⟨rfl, hb3⟩
    obtain ⟨hc_w3, hf_w3⟩ := bcell hb3
    have hz_w3_0 : w.heap.size < w3.heap.size := by have := hb3.size; (try simp only [World.size_alloc, World.size_setCell, World.size_drew] at this); omega
    go_wp2_with fail
    refine (HI.out _).mono ?_
    rintro e w4 ⟨rfl, hb4⟩
    obtain ⟨hc_w4, hf_w4⟩ := bcell hb4
    go_wp2
    go_ret
    refine ⟨rfl, ?_⟩
    repeat' (first | (with_reducible exact Below.refl _ _) | (with_reducible assumption) | (with_reducible refine bstep ?_ (by with_reducible assumption)) | (with_reducible refine Below.alloc ?_ ?_ _) | (with_reducible refine Below.setCell ?_ ?_ _) | (with_reducible refine Below.drew ?_) | (with_reducible refine below_drewN ?_ _) | omega | (simp only [World.size_alloc, World.size_setCell, World.size_drew]; omega) | (simp; omega))

theorem Try.cellsRule : Try.prog.cellsOf 60 = 2 := by kernel_rfl

set_option maxRecDepth 100000 in
theorem fnExactReducerFor_lifted (os : Os) (started : os.Started) (H : Type) (enc : TypeId × Value → H) :
    ReturnsInHanded {} Try.checked os 14 .any (Rows.fnExactReducerForSpec.pre6 enc Try.prog Try.f14 Rows.fnExactReducerForRow.domain false) (Rows.fnExactReducerForSpec.post enc Try.prog Try.f14 false true false false) := by
  refine returnsInHanded_of_change (C := Try.checked) Try.own started (by kernel_rfl) Try.func14
    (ChangeSpec.witness6 (enc := enc) (C := Try.checked) false ⟨#[], #[.int .i64 0, .agg #[.int .i64 0, .int .i64 0], .int .i64 0], []⟩ 8 (by kernel_rfl) (by kernel_rfl) (by kernel_rfl) (by kernel_rfl)) ?_
  intro W base args ds gs before hval0 hW _ _
  have hval : ∀ (j : Nat) t v, Try.f14.params[j]? = some t → args[j]? = some v → Value.okWide Try.prog W .any base t v := hval0
  have hW' : DataW.Whole enc Try.prog Try.f14.params.toList Rows.fnExactReducerForSpec.vars false W args.toList ds gs before := hW
  obtain ⟨p, q, hA0, hV, rfl, hfz, hnd⟩ := hW
  have hlt : ∀ x ∈ p, x.block < W.heap.size := fun x hx => hW'.lt x (by simp [hx])
  have hA : DataW.TrodAll enc Try.prog W 0 (fun _ => true) true Try.f14.params.toList args.toList ds p := hA0
  rw [Try.params14] at hA hval
  clear hA0 hval0
  obtain ⟨v0, v1, v2, d0, d1, d2, p0, p1, p2, rfl, rfl, rfl, h0, h1, h2⟩ := trodAll_three hA
  obtain ⟨rfl, rfl⟩ := trodVars_none hV
  obtain ⟨i0, rfl, rfl, rfl, wi0⟩ := open_int Try.underlying3 (hval 0 3 v0 rfl rfl) h0
  obtain ⟨i2, rfl, rfl, rfl, wi2⟩ := open_int Try.underlying3 (hval 2 3 v2 rfl rfl) h2
  obtain ⟨c0, c1, y0, y1, m, rfl, rfl, rfl, hy0, hy1⟩ := open_agg2 Try.underlying60 (by kernel_rfl) Try.cellsRule (hval 1 60 v1 rfl rfl) h1
  obtain ⟨t0, e0, _, wt0⟩ := DataW.trod_int Try.underlying3 hy0
  obtain ⟨t1, e1, _, wt1⟩ := DataW.trod_int Try.underlying3 hy1
  simp at e0 e1
  subst e0 e1
  refine (law_ReducerFor i0 t0 t1 i2 W).mono fun e W' ⟨he, hb⟩ => ?_
  subst he
  exact ⟨_, rfl, law_post rfl rfl (by kernel_rfl) hW' rfl rfl rfl hb⟩

theorem fnExactReducerFor_proved : Rows.FnExactReducerForSaid :=
  OpenClaim.holds_of_wide 14 Try.f14 rfl rfl rfl rfl rfl rfl rfl ⟨rfl, rfl, rfl, rfl, rfl⟩ rfl rfl rfl rfl rfl (by kernel_rfl) Try.func14 (by kernel_rfl)
    (of_decide_eq_true (by kernel_rfl)) (by unfold Func.isWrapper; first | (rw [if_pos (by decide +kernel)]; kernel_rfl) | (rw [if_neg (by decide +kernel)]; exact ⟨rfl, rfl⟩))
    (fun os started H enc _ => fnExactReducerFor_lifted os started H enc)

end Go.Proofs.Ytpcbeapajlchgaa
