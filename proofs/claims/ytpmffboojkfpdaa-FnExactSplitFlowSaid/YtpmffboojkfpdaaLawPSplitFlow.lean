/-
  The law FnExactSplitFlow returns true for every input, and leaves its arguments as they were. No condition.
-/
import Derived.Test.YtpmffboojkfpdaaSplitF
import Derived.Test.YtpmffboojkfpdaaMarks
import Derived.Test.YtpmffboojkfpdaaLift
set_option linter.unusedVariables false
set_option linter.unusedSimpArgs false
namespace Go.Proofs.Ytpmffboojkfpdaa
open Go.ChangeShapes Go.WideShapes Go.ChangeAt Go.RowKit Go.Joins Go.Deep

set_option maxRecDepth 100000 in
set_option maxHeartbeats 8000000 in
theorem law_SplitFlow (a : Option Addr) (n c : Nat) (l : List Int) (q : Int) (w : World) (h : IntsAt w a n l) :
    Calls Try.prog 11 #[.slice a n c, .int .i64 q] w fun e w' => e = .returned (.bool true) ∧ Below w.heap.size w w' := by
  have H_l := hid h
  clear h
  by_cases hn : 1048576 < n
  · go_enter Try.func11, Try.ntmps11
    go_wp2
    go_ret
    exact ⟨rfl, by go_grown⟩
  obtain ⟨R, b, hR⟩ : ∃ R b, splitR l q = (R, b) := ⟨_, _, rfl⟩
  have HR := hid hR
  have hRl : R.length ≤ 1000 := splitR_len hR
  clear hR
  have hx : (b != b) = false := by simp
  have hy : ((1 + (R.length : Int)) != (1 + (R.length : Int))) = false := by simp
  go_enter Try.func11, Try.ntmps11
  go_wp2_with fail
  refine (l_toIntS _ _ _ l _ (H_l.out.below (by go_grown)) (by omega)).mono ?_
  rintro e w1 ⟨a1, c1, rfl, o1, hb⟩
  have HB_1 := hid (bstep (by go_grown) hb : Below w.heap.size w w1)
  have B_1 := HB_1
  have S_1 := HB_1.out.size
  clear hb
  have O_s1 := hid o1
  clear o1
  go_wp2_with fail
  refine (s_SplitFlow _ _ _ q l _ (O_s1.out.at.below (by go_grown)) (by omega) R b HR.out).mono ?_
  rintro e w2 ⟨a2, c2, rfl, o2, hb⟩
  have HB_2 := hid (bstep (by go_grown) hb : Below w1.heap.size w1 w2)
  have B_2 := hid (bstep B_1.out HB_2.out)
  have S_2 := HB_2.out.size
  clear hb
  have O_w0 := hid o2
  clear o2
  go_wp2_with fail
  refine (l_toIntS _ _ _ l _ ((H_l.out.below B_2.out).below (by go_grown)) (by omega)).mono ?_
  rintro e w3 ⟨a3, c3, rfl, o3, hb⟩
  have HB_3 := hid (bstep (by go_grown) hb : Below w2.heap.size w2 w3)
  have B_3 := hid (bstep B_2.out HB_3.out)
  have S_3 := HB_3.out.size
  clear hb
  have O_x0 := hid o3
  clear o3
  go_wp2_with fail
  refine (i_SplitFlow _ _ _ q l _ (O_x0.out.at.below (by go_grown)) (by omega) R b HR.out).mono ?_
  rintro e w4 ⟨a4, c4, rfl, o4, hb⟩
  have HB_4 := hid (bstep (by go_grown) hb : Below w3.heap.size w3 w4)
  have B_4 := hid (bstep B_3.out HB_4.out)
  have S_4 := HB_4.out.size
  clear hb
  have O_g0 := hid o4
  clear o4
  have O_w0_4 := hid ((O_w0.out.below HB_3.out).below HB_4.out)
  go_wp2_with fail
  refine (l_eqIntS _ _ _ _ _ _ R R _ (O_g0.out.at.below (by go_grown)) (O_w0_4.out.at.below (by go_grown)) (by omega) (by omega)).mono ?_
  rintro e w5 ⟨rfl, hb⟩
  have HB_5 := hid (bstep (by go_grown) hb : Below w4.heap.size w4 w5)
  have B_5 := hid (bstep B_4.out HB_5.out)
  have S_5 := HB_5.out.size
  clear hb
  go_wp2_with fail
  refine (l_toIntS _ _ _ l _ ((H_l.out.below B_5.out).below (by go_grown)) (by omega)).mono ?_
  rintro e w6 ⟨a5, c5, rfl, o5, hb⟩
  have HB_6 := hid (bstep (by go_grown) hb : Below w5.heap.size w5 w6)
  have B_6 := hid (bstep B_5.out HB_6.out)
  have S_6 := HB_6.out.size
  clear hb
  have O_y0 := hid o5
  clear o5
  have O_x0_6 := hid (((O_x0.out.below HB_4.out).below HB_5.out).below HB_6.out)
  go_wp2_with fail
  refine (l_eqIntS _ _ _ _ _ _ l l _ (O_x0_6.out.at.below (by go_grown)) (O_y0.out.at.below (by go_grown)) (by omega) (by omega)).mono ?_
  rintro e w7 ⟨rfl, hb⟩
  have HB_7 := hid (bstep (by go_grown) hb : Below w6.heap.size w6 w7)
  have B_7 := hid (bstep B_6.out HB_7.out)
  have S_7 := HB_7.out.size
  clear hb
  have O_x0_7 := hid (O_x0_6.out.below HB_7.out)
  have O_g0_7 := hid (((O_g0.out.below HB_5.out).below HB_6.out).below HB_7.out)
  have O_w0_7 := hid (((O_w0_4.out.below HB_5.out).below HB_6.out).below HB_7.out)
  go_wp2_with fail
  refine (l_markIntS _ _ _ _ l _ _ O_x0_7.out (by omega) (by omega)).mono ?_
  rintro e w8 ⟨rfl, ho, hg⟩
  have S_8 := hg.size
  have L_8 := hid (O_x0.out).lt
  have B_8 := hid (B_7.out.grown hg B_7.out.size (fun q hq => by have := (L_8.out q hq).1; omega))
  have O_g0_8 := hid (O_g0_7.out.kept hg (ne_of_younger O_g0.out.lt O_x0.out.lt (by omega)))
  have O_w0_8 := hid (O_w0_7.out.kept hg (ne_of_older O_w0.out.lt O_x0.out.lt (by omega)))
  have O_x0_8 := hid ho
  clear ho hg
  go_wp2_with fail
  refine (l_eqIntS _ _ _ _ _ _ R R _ (O_g0_8.out.at.below (by go_grown)) (O_w0_8.out.at.below (by go_grown)) (by omega) (by omega)).mono ?_
  rintro e w9 ⟨rfl, hb⟩
  have HB_9 := hid (bstep (by go_grown) hb : Below w8.heap.size w8 w9)
  have B_9 := hid (bstep B_8.out HB_9.out)
  have S_9 := HB_9.out.size
  clear hb
  have O_g0_9 := hid (O_g0_8.out.below HB_9.out)
  have O_w0_9 := hid (O_w0_8.out.below HB_9.out)
  go_wp2_with fail
  refine (l_markIntS _ _ _ _ R _ _ O_g0_9.out (by omega) (by omega)).mono ?_
  rintro e w10 ⟨rfl, ho, hg⟩
  have S_10 := hg.size
  have L_10 := hid (O_g0.out).lt
  have B_10 := hid (B_9.out.grown hg B_9.out.size (fun q hq => by have := (L_10.out q hq).1; omega))
  have O_w0_10 := hid (O_w0_9.out.kept hg (ne_of_older O_w0.out.lt O_g0.out.lt (by omega)))
  have O_g0_10 := hid ho
  clear ho hg
  go_wp2_with fail
  refine (l_heldIntS _ _ _ _ _ (O_g0_10.out.at.below (by go_grown)) (by omega) (by omega)).mono ?_
  rintro e _ ⟨rfl, rfl⟩
  go_wp2_with fail
  refine (l_toIntS _ _ _ l _ ((H_l.out.below B_10.out).below (by go_grown)) (by omega)).mono ?_
  rintro e w11 ⟨a6, c6, rfl, o6, hb⟩
  have HB_11 := hid (bstep (by go_grown) hb : Below w10.heap.size w10 w11)
  have B_11 := hid (bstep B_10.out HB_11.out)
  have S_11 := HB_11.out.size
  clear hb
  have O_z0 := hid o6
  clear o6
  go_wp2_with fail
  refine (i_SplitFlow _ _ _ q l _ (O_z0.out.at.below (by go_grown)) (by omega) R b HR.out).mono ?_
  rintro e w12 ⟨a7, c7, rfl, o7, hb⟩
  have HB_12 := hid (bstep (by go_grown) hb : Below w11.heap.size w11 w12)
  have B_12 := hid (bstep B_11.out HB_12.out)
  have S_12 := HB_12.out.size
  clear hb
  have O_h0 := hid o7
  clear o7
  have O_w0_12 := hid ((O_w0_10.out.below HB_11.out).below HB_12.out)
  go_wp2_with fail
  refine (l_eqIntS _ _ _ _ _ _ R R _ (O_h0.out.at.below (by go_grown)) (O_w0_12.out.at.below (by go_grown)) (by omega) (by omega)).mono ?_
  rintro e w13 ⟨rfl, hb⟩
  have HB_13 := hid (bstep (by go_grown) hb : Below w12.heap.size w12 w13)
  have B_13 := hid (bstep B_12.out HB_13.out)
  have S_13 := HB_13.out.size
  clear hb
  have O_g0_13 := hid (((O_g0_10.out.below HB_11.out).below HB_12.out).below HB_13.out)
  go_wp2_with fail
  refine (l_heldIntS _ _ _ _ _ (O_g0_13.out.at.below (by go_grown)) (by omega) (by omega)).mono ?_
  rintro e _ ⟨rfl, rfl⟩
  go_wp2
  go_ret
  exact ⟨rfl, B_13.out⟩

set_option maxRecDepth 100000 in
theorem fnExactSplitFlow_lifted (os : Os) (started : os.Started) (H : Type) (enc : TypeId × Value → H) :
    ReturnsInHanded {} Try.checked os 11 .any (Rows.fnExactSplitFlowSpec.pre6 enc Try.prog Try.f11 Rows.fnExactSplitFlowRow.domain false) (Rows.fnExactSplitFlowSpec.post enc Try.prog Try.f11 false true false false) := by
  refine returnsInHanded_of_change (C := Try.checked) Try.own started (by kernel_rfl) Try.func11
    (ChangeSpec.witness6 (enc := enc) (C := Try.checked) false ⟨#[], #[.slice none 0 0, .int .i64 0], []⟩ 8 (by kernel_rfl) (by kernel_rfl) (by kernel_rfl) (by kernel_rfl)) ?_
  intro W base args ds gs before hval0 hW _ _
  have hval : ∀ (j : Nat) t v, Try.f11.params[j]? = some t → args[j]? = some v → Value.okWide Try.prog W .any base t v := hval0
  have hW' : DataW.Whole enc Try.prog Try.f11.params.toList Rows.fnExactSplitFlowSpec.vars false W args.toList ds gs before := hW
  obtain ⟨p, q, hA0, hV, rfl, hfz, hnd⟩ := hW
  have hlt : ∀ x ∈ p, x.block < W.heap.size := fun x hx => hW'.lt x (by simp [hx])
  have hA : DataW.TrodAll enc Try.prog W 0 (fun _ => true) true Try.f11.params.toList args.toList ds p := hA0
  rw [Try.params11] at hA hval
  clear hA0 hval0
  obtain ⟨v0, v1, d0, d1, p0, p1, rfl, rfl, rfl, h0, h1⟩ := trodAll_two hA
  obtain ⟨rfl, rfl⟩ := trodVars_none hV
  obtain ⟨x0, n0, k0, l0, rfl, g0, b0⟩ := open_ints_at (hval 0 22 v0 rfl rfl) h0
  obtain ⟨i1, rfl, rfl, rfl, wi1⟩ := open_int Try.underlying3 (hval 1 3 v1 rfl rfl) h1
  refine (law_SplitFlow x0 n0 k0 l0 i1 W g0).mono fun e W' ⟨he, hb⟩ => ?_
  subst he
  exact ⟨_, rfl, law_post rfl rfl (by kernel_rfl) hW' rfl rfl rfl hb⟩

theorem fnExactSplitFlow_proved : Rows.FnExactSplitFlowSaid :=
  OpenClaim.holds_of_wide 11 Try.f11 rfl rfl rfl rfl rfl rfl rfl ⟨rfl, rfl, rfl, rfl, rfl⟩ rfl rfl rfl rfl rfl (by kernel_rfl) Try.func11 (by kernel_rfl)
    (of_decide_eq_true (by kernel_rfl)) (by unfold Func.isWrapper; first | (rw [if_pos (by decide +kernel)]; kernel_rfl) | (rw [if_neg (by decide +kernel)]; exact ⟨rfl, rfl⟩))
    (fun os started H enc _ => fnExactSplitFlow_lifted os started H enc)

end Go.Proofs.Ytpmffboojkfpdaa
