/-
  The law FnExactWorkingHead returns true for every input, and leaves its arguments as they were. No condition.
-/
import Derived.Test.YtpcbeapajlchgaaCurveP2
import Derived.Test.YtpcbeapajlchgaaCurveC
import Derived.Test.YtpcbeapajlchgaaLiftCurve
set_option linter.unusedVariables false
set_option linter.unusedSimpArgs false
namespace Go.Proofs.Ytpcbeapajlchgaa
open Go.ChangeShapes Go.WideShapes Go.ChangeAt Go.RowKit Go.Joins Go.Deep

set_option maxHeartbeats 2000000 in
theorem law_WorkingHead (a : Option Addr) (n c : Nat) (l : List Pt) (q : Int) (r : Int) (w : World) (h : PAt w a n l) (hmax : n ≤ 9223372036854775807) (bq : i64 q) (br : i64 r) :
    Calls Try.prog 8 #[.slice a n c, .int .i64 q, .int .i64 r] w fun e w' => e = .returned (.bool true) ∧ Below w.heap.size w w' := by
  have H_l := hid h
  clear h
  by_cases hn : 1048576 < n
  · go_enter Try.func8, Try.ntmps8
    go_wp2_with fail
    refine (l_szCurvePointS_no _ _ _ _ (by omega) (by omega)).mono ?_
    rintro e _ ⟨rfl, rfl⟩
    go_wp2
    go_ret
    exact ⟨rfl, by go_grown⟩
  by_cases hv : ∃ k, works l n q r k
  · obtain ⟨k, hk⟩ := hv
    have K := hid hk
    clear hk
    obtain ⟨N, hN⟩ : ∃ N, N = lowN (wkN l k q) (wkD l k r) := ⟨_, rfl⟩
    obtain ⟨D, hD⟩ : ∃ D, D = lowD (wkN l k q) (wkD l k r) := ⟨_, rfl⟩
    have HN := hid hN
    have HD := hid hD
    clear hN hD
    have hx : ((lowN (q * D + r * N) D) != (lowN (q * D + r * N) D)) = false := by simp
    have hy : ((lowD (q * D + r * N) D) != (lowD (q * D + r * N) D)) = false := by simp
    go_enter Try.func8, Try.ntmps8
    go_wp2_with fail
    refine (l_szCurvePointS_yes _ _ _ _ (by omega)).mono ?_
    rintro e _ ⟨rfl, rfl⟩
    go_wp2_with fail
    refine (l_toCurvePointS _ _ _ l _ (H_l.out.below (by go_grown)) (by omega)).mono ?_
    rintro e w1 ⟨a1, c1, rfl, o1, hb⟩
    have HB_1 := hid (bstep (by go_grown) hb : Below w.heap.size w w1)
    have B_1 := HB_1
    have S_1 := HB_1.out.size
    clear hb
    have O_s1 := hid o1
    clear o1
    go_wp2_with fail
    refine (s_WorkingHead_is _ _ _ k q r N D l _ ((OwnS.at pf_len O_s1.out).below (by go_grown)) K.out HN.out HD.out).mono ?_
    rintro e w2 ⟨rfl, hb⟩
    have HB_2 := hid (bstep (by go_grown) hb : Below w1.heap.size w1 w2)
    have B_2 := hid (bstep B_1.out HB_2.out)
    have S_2 := HB_2.out.size
    clear hb
    go_wp2_with fail
    refine (l_toCurvePointS _ _ _ l _ ((H_l.out.below B_2.out).below (by go_grown)) (by omega)).mono ?_
    rintro e w3 ⟨a2, c2, rfl, o2, hb⟩
    have HB_3 := hid (bstep (by go_grown) hb : Below w2.heap.size w2 w3)
    have B_3 := hid (bstep B_2.out HB_3.out)
    have S_3 := HB_3.out.size
    clear hb
    have O_x1 := hid o2
    clear o2
    go_wp2_with fail
    refine (i_WorkingHead_is _ _ _ k q r N D l _ ((OwnS.at pf_len O_x1.out).below (by go_grown)) K.out HN.out HD.out).mono ?_
    rintro e w4 ⟨rfl, hb⟩
    have HB_4 := hid (bstep (by go_grown) hb : Below w3.heap.size w3 w4)
    have B_4 := hid (bstep B_3.out HB_4.out)
    have S_4 := HB_4.out.size
    clear hb
    go_wp2_with fail
    refine (l_toCurvePointS _ _ _ l _ ((H_l.out.below B_4.out).below (by go_grown)) (by omega)).mono ?_
    rintro e w5 ⟨a3, c3, rfl, o3, hb⟩
    have HB_5 := hid (bstep (by go_grown) hb : Below w4.heap.size w4 w5)
    have B_5 := hid (bstep B_4.out HB_5.out)
    have S_5 := HB_5.out.size
    clear hb
    have O_y1 := hid o3
    clear o3
    have O_x1_5 := hid ((O_x1.out.below HB_4.out).below HB_5.out)
    go_wp2_with fail
    refine (l_eqCurvePointS _ _ _ _ _ l _ ((OwnS.at pf_len O_x1_5.out).below (by go_grown)) ((OwnS.at pf_len O_y1.out).below (by go_grown)) (by omega)).mono ?_
    rintro e w6 ⟨rfl, hb⟩
    have HB_6 := hid (bstep (by go_grown) hb : Below w5.heap.size w5 w6)
    have B_6 := hid (bstep B_5.out HB_6.out)
    have S_6 := HB_6.out.size
    clear hb
    go_wp2
    go_ret
    exact ⟨rfl, B_6.out⟩
  · have V := hid hv
    clear hv
    go_enter Try.func8, Try.ntmps8
    go_wp2_with fail
    refine (l_szCurvePointS_yes _ _ _ _ (by omega)).mono ?_
    rintro e _ ⟨rfl, rfl⟩
    go_wp2_with fail
    refine (l_toCurvePointS _ _ _ l _ (H_l.out.below (by go_grown)) (by omega)).mono ?_
    rintro e w1 ⟨a1, c1, rfl, o1, hb⟩
    have HB_1 := hid (bstep (by go_grown) hb : Below w.heap.size w w1)
    have B_1 := HB_1
    have S_1 := HB_1.out.size
    clear hb
    have O_s1 := hid o1
    clear o1
    go_wp2_with fail
    refine (s_WorkingHead_not _ _ _ q r l _ ((OwnS.at pf_len O_s1.out).below (by go_grown)) (by omega) V.out).mono ?_
    rintro e w2 ⟨rfl, hb⟩
    have HB_2 := hid (bstep (by go_grown) hb : Below w1.heap.size w1 w2)
    have B_2 := hid (bstep B_1.out HB_2.out)
    have S_2 := HB_2.out.size
    clear hb
    go_wp2_with fail
    refine (l_toCurvePointS _ _ _ l _ ((H_l.out.below B_2.out).below (by go_grown)) (by omega)).mono ?_
    rintro e w3 ⟨a2, c2, rfl, o2, hb⟩
    have HB_3 := hid (bstep (by go_grown) hb : Below w2.heap.size w2 w3)
    have B_3 := hid (bstep B_2.out HB_3.out)
    have S_3 := HB_3.out.size
    clear hb
    have O_x1 := hid o2
    clear o2
    go_wp2_with fail
    refine (i_WorkingHead_not _ _ _ q r l _ ((OwnS.at pf_len O_x1.out).below (by go_grown)) (by omega) V.out).mono ?_
    rintro e w4 ⟨rfl, hb⟩
    have HB_4 := hid (bstep (by go_grown) hb : Below w3.heap.size w3 w4)
    have B_4 := hid (bstep B_3.out HB_4.out)
    have S_4 := HB_4.out.size
    clear hb
    go_wp2_with fail
    refine (l_toCurvePointS _ _ _ l _ ((H_l.out.below B_4.out).below (by go_grown)) (by omega)).mono ?_
    rintro e w5 ⟨a3, c3, rfl, o3, hb⟩
    have HB_5 := hid (bstep (by go_grown) hb : Below w4.heap.size w4 w5)
    have B_5 := hid (bstep B_4.out HB_5.out)
    have S_5 := HB_5.out.size
    clear hb
    have O_y1 := hid o3
    clear o3
    have O_x1_5 := hid ((O_x1.out.below HB_4.out).below HB_5.out)
    go_wp2_with fail
    refine (l_eqCurvePointS _ _ _ _ _ l _ ((OwnS.at pf_len O_x1_5.out).below (by go_grown)) ((OwnS.at pf_len O_y1.out).below (by go_grown)) (by omega)).mono ?_
    rintro e w6 ⟨rfl, hb⟩
    have HB_6 := hid (bstep (by go_grown) hb : Below w5.heap.size w5 w6)
    have B_6 := hid (bstep B_5.out HB_6.out)
    have S_6 := HB_6.out.size
    clear hb
    go_wp2
    go_ret
    exact ⟨rfl, B_6.out⟩

set_option maxRecDepth 100000 in
theorem fnExactWorkingHead_lifted (os : Os) (started : os.Started) (H : Type) (enc : TypeId × Value → H) :
    ReturnsInHanded {} Try.checked os 8 .any (Rows.fnExactWorkingHeadSpec.pre6 enc Try.prog Try.f8 Rows.fnExactWorkingHeadRow.domain false) (Rows.fnExactWorkingHeadSpec.post enc Try.prog Try.f8 false true false false) := by
  refine returnsInHanded_of_change (C := Try.checked) Try.own started (by kernel_rfl) Try.func8
    (ChangeSpec.witness6 (enc := enc) (C := Try.checked) false ⟨#[], #[.slice none 0 0, .int .i64 0, .int .i64 0], []⟩ 8 (by kernel_rfl) (by kernel_rfl) (by kernel_rfl) (by kernel_rfl)) ?_
  intro W base args ds gs before hval0 hW _ _
  have hval : ∀ (j : Nat) t v, Try.f8.params[j]? = some t → args[j]? = some v → Value.okWide Try.prog W .any base t v := hval0
  have hW' : DataW.Whole enc Try.prog Try.f8.params.toList Rows.fnExactWorkingHeadSpec.vars false W args.toList ds gs before := hW
  obtain ⟨p, q, hA0, hV, rfl, hfz, hnd⟩ := hW
  have hlt : ∀ x ∈ p, x.block < W.heap.size := fun x hx => hW'.lt x (by simp [hx])
  have hA : DataW.TrodAll enc Try.prog W 0 (fun _ => true) true Try.f8.params.toList args.toList ds p := hA0
  rw [Try.params8] at hA hval
  clear hA0 hval0
  obtain ⟨v0, v1, v2, d0, d1, d2, p0, p1, p2, rfl, rfl, rfl, h0, h1, h2⟩ := trodAll_three hA
  obtain ⟨rfl, rfl⟩ := trodVars_none hV
  obtain ⟨x0, n0, k0, l0, rfl, g0, m0, b0⟩ := open_pts_at (hval 0 22 v0 rfl rfl) h0
  obtain ⟨i1, rfl, rfl, rfl, wi1⟩ := open_int Try.underlying3 (hval 1 3 v1 rfl rfl) h1
  obtain ⟨i2, rfl, rfl, rfl, wi2⟩ := open_int Try.underlying3 (hval 2 3 v2 rfl rfl) h2
  refine (law_WorkingHead x0 n0 k0 l0 i1 i2 W g0 m0 (wf_i64 wi1) (wf_i64 wi2)).mono fun e W' ⟨he, hb⟩ => ?_
  subst he
  exact ⟨_, rfl, law_post rfl rfl (by kernel_rfl) hW' rfl rfl rfl hb⟩

theorem fnExactWorkingHead_proved : Rows.FnExactWorkingHeadSaid :=
  OpenClaim.holds_of_wide 8 Try.f8 rfl rfl rfl rfl rfl rfl rfl ⟨rfl, rfl, rfl, rfl, rfl⟩ rfl rfl rfl rfl rfl (by kernel_rfl) Try.func8 (by kernel_rfl)
    (of_decide_eq_true (by kernel_rfl)) (by unfold Func.isWrapper; first | (rw [if_pos (by decide +kernel)]; kernel_rfl) | (rw [if_neg (by decide +kernel)]; exact ⟨rfl, rfl⟩))
    (fun os started H enc _ => fnExactWorkingHead_lifted os started H enc)

end Go.Proofs.Ytpcbeapajlchgaa
