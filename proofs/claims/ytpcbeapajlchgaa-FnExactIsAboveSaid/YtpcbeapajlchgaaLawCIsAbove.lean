/-
  The law FnExactIsAbove returns true for every input, and leaves its arguments as they were. No condition.
-/
import Derived.Test.YtpcbeapajlchgaaCurveB3
import Derived.Test.YtpcbeapajlchgaaLiftCurve
set_option linter.unusedVariables false
set_option linter.unusedSimpArgs false
namespace Go.Proofs.Ytpcbeapajlchgaa
open Go.ChangeShapes Go.WideShapes Go.ChangeAt Go.RowKit Go.Joins Go.Deep

theorem l_szLeft_yes (a : Option Addr) (n c : Nat) (left : Int) (w : World) (hn : (n : Int) ≤ left) (h : left ≤ 1048576) : Calls Try.prog 15 #[.slice a n c, .int .i64 left] w fun e w' => e = .returned (.int .i64 (left - (n : Int))) ∧ w = w' := by
  go_enter Try.func15, Try.ntmps15
  go_wp2
  go_ret
  exact ⟨rfl, rfl⟩
theorem l_szLeft_no (a : Option Addr) (n c : Nat) (left : Int) (w : World) (hn : left < (n : Int)) (h : 0 ≤ left ∧ left ≤ 1048576) (hn2 : n ≤ 9223372036854775807) : Calls Try.prog 15 #[.slice a n c, .int .i64 left] w fun e w' => e = .returned (.int .i64 (-1)) ∧ w = w' := by
  go_enter Try.func15, Try.ntmps15
  go_wp2
  go_ret
  exact ⟨rfl, rfl⟩

theorem i_IsAbove (pa pb : Option Addr) (n c m d : Nat) (a b : List Pt) (w : World) (h : PAt w pa n a) (h' : PAt w pb m b) (hn : n ≤ 1048576) (hm : m ≤ 1048576) (x y : Bool) (hR : aboveR a b = (x, y)) :
    Calls Try.prog 33 #[.slice pa n c, .slice pb m d] w fun e w' => e = .returned (.tuple #[.bool x, .bool y]) ∧ Below w.heap.size w w' := by
  by_cases hv : goodCurve a = true ∧ goodCurve b = true
  · have e0 : aboveR a b = (!((a ++ b).any fun p => under a n b m p.1), true) := by
      unfold aboveR
      rw [if_pos hv, h.1, h'.1]
    rw [e0] at hR
    cases hR
    exact i_IsAbove_yes pa pb n c m d a b w h h' hv.1 hv.2
  · have hno : goodCurve a = false ∨ goodCurve b = false := by
      cases h1 : goodCurve a
      · exact .inl rfl
      · cases h2 : goodCurve b
        · exact .inr rfl
        · exact absurd ⟨h1, h2⟩ hv
    rw [aboveR_no hno] at hR
    cases hR
    exact i_IsAbove_no pa pb n c m d a b w h h' hn hm hno

theorem s_IsAbove (pa pb : Option Addr) (n c m d : Nat) (a b : List Pt) (w : World) (h : PAt w pa n a) (h' : PAt w pb m b) (hn : n ≤ 1048576) (hm : m ≤ 1048576) (x y : Bool) (hR : aboveR a b = (x, y)) :
    Calls Try.prog 32 #[.slice pa n c, .slice pb m d] w fun e w' => e = .returned (.tuple #[.bool x, .bool y]) ∧ Below w.heap.size w w' := by
  by_cases hv : goodCurve a = true ∧ goodCurve b = true
  · have e0 : aboveR a b = (!((a ++ b).any fun p => under a n b m p.1), true) := by
      unfold aboveR
      rw [if_pos hv, h.1, h'.1]
    rw [e0] at hR
    cases hR
    exact s_IsAbove_yes pa pb n c m d a b w h h' hv.1 hv.2
  · have hno : goodCurve a = false ∨ goodCurve b = false := by
      cases h1 : goodCurve a
      · exact .inl rfl
      · cases h2 : goodCurve b
        · exact .inr rfl
        · exact absurd ⟨h1, h2⟩ hv
    rw [aboveR_no hno] at hR
    cases hR
    exact s_IsAbove_no pa pb n c m d a b w h h' hn hm hno

set_option maxHeartbeats 2000000 in
theorem law_IsAbove (a b : Option Addr) (n m c d : Nat) (l f : List Pt) (w : World) (h : PAt w a n l) (h' : PAt w b m f) (hmax : n ≤ 9223372036854775807) (hmax2 : m ≤ 9223372036854775807) :
    Calls Try.prog 9 #[.slice a n c, .slice b m d] w fun e w' => e = .returned (.bool true) ∧ Below w.heap.size w w' := by
  have H_l := hid h
  have H_f := hid h'
  clear h h'
  by_cases hn : 1048576 < n
  · go_enter Try.func9, Try.ntmps9
    go_wp2_with fail
    refine (l_szCurvePointS_no _ _ _ _ (by omega) (by omega)).mono ?_
    rintro e _ ⟨rfl, rfl⟩
    go_wp2
    go_ret
    exact ⟨rfl, by go_grown⟩
  by_cases hm : 1048576 - (n : Int) < (m : Int)
  · go_enter Try.func9, Try.ntmps9
    go_wp2_with fail
    refine (l_szCurvePointS_yes _ _ _ _ (by omega)).mono ?_
    rintro e _ ⟨rfl, rfl⟩
    go_wp2_with fail
    refine (l_szLeft_no _ _ _ _ _ (by omega) (by omega) (by omega)).mono ?_
    rintro e _ ⟨rfl, rfl⟩
    go_wp2
    go_ret
    exact ⟨rfl, by go_grown⟩
  obtain ⟨x, y, hR⟩ : ∃ x y, aboveR l f = (x, y) := ⟨_, _, rfl⟩
  have HR := hid hR
  clear hR
  have hx : (x != x) = false := by simp
  have hy : (y != y) = false := by simp
  go_enter Try.func9, Try.ntmps9
  go_wp2_with fail
  refine (l_szCurvePointS_yes _ _ _ _ (by omega)).mono ?_
  rintro e _ ⟨rfl, rfl⟩
  go_wp2_with fail
  refine (l_szLeft_yes _ _ _ _ _ (by omega) (by omega)).mono ?_
  rintro e _ ⟨rfl, rfl⟩
  go_wp2_with fail
  refine (l_toCurvePointS _ _ _ l _ (H_l.out.below (by go_grown)) (by omega)).mono ?_
  rintro e w1 ⟨a1, c1, rfl, o1, hb⟩
  have HB_1 := hid (bstep (by go_grown) hb : Below w.heap.size w w1)
  have B_1 := HB_1
  have S_1 := HB_1.out.size
  clear hb
  have O_s1 := hid o1
  clear o1
  go_wp2_with fail
  refine (l_toCurvePointS _ _ _ f _ ((H_f.out.below B_1.out).below (by go_grown)) (by omega)).mono ?_
  rintro e w2 ⟨a2, c2, rfl, o2, hb⟩
  have HB_2 := hid (bstep (by go_grown) hb : Below w1.heap.size w1 w2)
  have B_2 := hid (bstep B_1.out HB_2.out)
  have S_2 := HB_2.out.size
  clear hb
  have O_s2 := hid o2
  clear o2
  have O_s1_2 := hid (O_s1.out.below HB_2.out)
  go_wp2_with fail
  refine (s_IsAbove _ _ _ _ _ _ l f _ ((OwnS.at pf_len O_s1_2.out).below (by go_grown)) ((OwnS.at pf_len O_s2.out).below (by go_grown)) (by omega) (by omega) x y HR.out).mono ?_
  rintro e w3 ⟨rfl, hb⟩
  have HB_3 := hid (bstep (by go_grown) hb : Below w2.heap.size w2 w3)
  have B_3 := hid (bstep B_2.out HB_3.out)
  have S_3 := HB_3.out.size
  clear hb
  go_wp2_with fail
  refine (l_toCurvePointS _ _ _ l _ ((H_l.out.below B_3.out).below (by go_grown)) (by omega)).mono ?_
  rintro e w4 ⟨a3, c3, rfl, o3, hb⟩
  have HB_4 := hid (bstep (by go_grown) hb : Below w3.heap.size w3 w4)
  have B_4 := hid (bstep B_3.out HB_4.out)
  have S_4 := HB_4.out.size
  clear hb
  have O_x1 := hid o3
  clear o3
  go_wp2_with fail
  refine (l_toCurvePointS _ _ _ f _ ((H_f.out.below B_4.out).below (by go_grown)) (by omega)).mono ?_
  rintro e w5 ⟨a4, c4, rfl, o4, hb⟩
  have HB_5 := hid (bstep (by go_grown) hb : Below w4.heap.size w4 w5)
  have B_5 := hid (bstep B_4.out HB_5.out)
  have S_5 := HB_5.out.size
  clear hb
  have O_x2 := hid o4
  clear o4
  have O_x1_5 := hid (O_x1.out.below HB_5.out)
  go_wp2_with fail
  refine (i_IsAbove _ _ _ _ _ _ l f _ ((OwnS.at pf_len O_x1_5.out).below (by go_grown)) ((OwnS.at pf_len O_x2.out).below (by go_grown)) (by omega) (by omega) x y HR.out).mono ?_
  rintro e w6 ⟨rfl, hb⟩
  have HB_6 := hid (bstep (by go_grown) hb : Below w5.heap.size w5 w6)
  have B_6 := hid (bstep B_5.out HB_6.out)
  have S_6 := HB_6.out.size
  clear hb
  go_wp2_with fail
  refine (l_toCurvePointS _ _ _ l _ ((H_l.out.below B_6.out).below (by go_grown)) (by omega)).mono ?_
  rintro e w7 ⟨a5, c5, rfl, o5, hb⟩
  have HB_7 := hid (bstep (by go_grown) hb : Below w6.heap.size w6 w7)
  have B_7 := hid (bstep B_6.out HB_7.out)
  have S_7 := HB_7.out.size
  clear hb
  have O_y1 := hid o5
  clear o5
  have O_x1_7 := hid ((O_x1_5.out.below HB_6.out).below HB_7.out)
  go_wp2_with fail
  refine (l_eqCurvePointS _ _ _ _ _ l _ ((OwnS.at pf_len O_x1_7.out).below (by go_grown)) ((OwnS.at pf_len O_y1.out).below (by go_grown)) (by omega)).mono ?_
  rintro e w8 ⟨rfl, hb⟩
  have HB_8 := hid (bstep (by go_grown) hb : Below w7.heap.size w7 w8)
  have B_8 := hid (bstep B_7.out HB_8.out)
  have S_8 := HB_8.out.size
  clear hb
  go_wp2_with fail
  refine (l_toCurvePointS _ _ _ f _ ((H_f.out.below B_8.out).below (by go_grown)) (by omega)).mono ?_
  rintro e w9 ⟨a6, c6, rfl, o6, hb⟩
  have HB_9 := hid (bstep (by go_grown) hb : Below w8.heap.size w8 w9)
  have B_9 := hid (bstep B_8.out HB_9.out)
  have S_9 := HB_9.out.size
  clear hb
  have O_y2 := hid o6
  clear o6
  have O_x2_9 := hid ((((O_x2.out.below HB_6.out).below HB_7.out).below HB_8.out).below HB_9.out)
  go_wp2_with fail
  refine (l_eqCurvePointS _ _ _ _ _ f _ ((OwnS.at pf_len O_x2_9.out).below (by go_grown)) ((OwnS.at pf_len O_y2.out).below (by go_grown)) (by omega)).mono ?_
  rintro e w10 ⟨rfl, hb⟩
  have HB_10 := hid (bstep (by go_grown) hb : Below w9.heap.size w9 w10)
  have B_10 := hid (bstep B_9.out HB_10.out)
  have S_10 := HB_10.out.size
  clear hb
  go_wp2
  go_ret
  exact ⟨rfl, B_10.out⟩

set_option maxRecDepth 100000 in
theorem fnExactIsAbove_lifted (os : Os) (started : os.Started) (H : Type) (enc : TypeId × Value → H) :
    ReturnsInHanded {} Try.checked os 9 .any (Rows.fnExactIsAboveSpec.pre6 enc Try.prog Try.f9 Rows.fnExactIsAboveRow.domain false) (Rows.fnExactIsAboveSpec.post enc Try.prog Try.f9 false true false false) := by
  refine returnsInHanded_of_change (C := Try.checked) Try.own started (by kernel_rfl) Try.func9
    (ChangeSpec.witness6 (enc := enc) (C := Try.checked) false ⟨#[], #[.slice none 0 0, .slice none 0 0], []⟩ 8 (by kernel_rfl) (by kernel_rfl) (by kernel_rfl) (by kernel_rfl)) ?_
  intro W base args ds gs before hval0 hW _ _
  have hval : ∀ (j : Nat) t v, Try.f9.params[j]? = some t → args[j]? = some v → Value.okWide Try.prog W .any base t v := hval0
  have hW' : DataW.Whole enc Try.prog Try.f9.params.toList Rows.fnExactIsAboveSpec.vars false W args.toList ds gs before := hW
  obtain ⟨p, q, hA0, hV, rfl, hfz, hnd⟩ := hW
  have hlt : ∀ x ∈ p, x.block < W.heap.size := fun x hx => hW'.lt x (by simp [hx])
  have hA : DataW.TrodAll enc Try.prog W 0 (fun _ => true) true Try.f9.params.toList args.toList ds p := hA0
  rw [Try.params9] at hA hval
  clear hA0 hval0
  obtain ⟨v0, v1, d0, d1, p0, p1, rfl, rfl, rfl, h0, h1⟩ := trodAll_two hA
  obtain ⟨rfl, rfl⟩ := trodVars_none hV
  obtain ⟨x0, n0, k0, l0, rfl, g0, m0, b0⟩ := open_pts_at (hval 0 22 v0 rfl rfl) h0
  obtain ⟨x1, n1, k1, l1, rfl, g1, m1, b1⟩ := open_pts_at (hval 1 22 v1 rfl rfl) h1
  refine (law_IsAbove x0 x1 n0 n1 k0 k1 l0 l1 W g0 g1 m0 m1).mono fun e W' ⟨he, hb⟩ => ?_
  subst he
  exact ⟨_, rfl, law_post rfl rfl (by kernel_rfl) hW' rfl rfl rfl hb⟩

theorem fnExactIsAbove_proved : Rows.FnExactIsAboveSaid :=
  OpenClaim.holds_of_wide 9 Try.f9 rfl rfl rfl rfl rfl rfl rfl ⟨rfl, rfl, rfl, rfl, rfl⟩ rfl rfl rfl rfl rfl (by kernel_rfl) Try.func9 (by kernel_rfl)
    (of_decide_eq_true (by kernel_rfl)) (by unfold Func.isWrapper; first | (rw [if_pos (by decide +kernel)]; kernel_rfl) | (rw [if_neg (by decide +kernel)]; exact ⟨rfl, rfl⟩))
    (fun os started H enc _ => fnExactIsAbove_lifted os started H enc)

end Go.Proofs.Ytpcbeapajlchgaa
