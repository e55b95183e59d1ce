/-
  The law FnExactParallelFlow returns true for every input, and leaves its arguments as they were. No condition.
-/
import Derived.Test.YtpcbeapajlchgaaCurveLp
import Derived.Test.YtpcbeapajlchgaaLiftLs
set_option linter.unusedVariables false
set_option linter.unusedSimpArgs false
namespace Go.Proofs.Ytpcbeapajlchgaa
open Go.ChangeShapes Go.WideShapes Go.ChangeAt Go.RowKit Go.Joins Go.Deep

set_option maxRecDepth 100000 in
set_option maxHeartbeats 4000000 in
theorem law_ParallelFlow (a : Option Addr) (n c : Nat) (L : List (List Pt)) (q : Int) (w : World) (h : LAt w a n L) (hmax : n ≤ 9223372036854775807) (hmax2 : ∀ k, k < n → (lk L k).length ≤ 9223372036854775807) :
    Calls Try.prog 11 #[.slice a n c, .int .i64 q] w fun e w' => e = .returned (.bool true) ∧ Below w.heap.size w w' := by
  have H_L := hid h
  clear h
  obtain ⟨x, y, z, hR⟩ : ∃ x y z, parR L q = (x, y, z) := ⟨_, _, _, rfl⟩
  have HR := hid hR
  clear hR
  have hx : (x != x) = false := by simp
  have hy : (y != y) = false := by simp
  have hz : (z != z) = false := by simp
  have HM := hid hmax2
  clear hmax2
  go_enter Try.func11, Try.ntmps11
  go_wp2_with fail
  refine (l_szCurvePointSS _ _ _ L _ H_L.out hmax HM.out).mono ?_
  rintro e _ ⟨v, rfl, hv, rfl⟩
  rcases hv with hv | ⟨hv, hlen⟩
  · go_wp2
    go_ret
    exact ⟨rfl, by go_grown⟩
  · have HN := hid hlen
    have hvn : ¬ v < 0 := by omega
    clear hlen
    go_wp2_with fail
    refine (l_toCurvePointSS _ _ _ L _ (H_L.out.below (by go_grown)) HN.out).mono ?_
    rintro e w1 ⟨a1, c1, rfl, o1, hb⟩
    have HB_1 := hid (bstep (by go_grown) hb : Below w.heap.size w w1)
    have B_1 := HB_1
    have S_1 := HB_1.out.size
    clear hb
    have O_s1 := hid o1
    clear o1
    go_wp2_with fail
    refine (s_ParallelFlow _ _ _ q L _ (O_s1.out.below (by go_grown)) HN.out x y z HR.out).mono ?_
    rintro e w2 ⟨rfl, hb⟩
    have HB_2 := hid (bstep (by go_grown) hb : Below w1.heap.size w1 w2)
    have B_2 := hid (bstep B_1.out HB_2.out)
    have S_2 := HB_2.out.size
    clear hb
    go_wp2_with fail
    refine (l_toCurvePointSS _ _ _ L _ ((H_L.out.below B_2.out).below (by go_grown)) HN.out).mono ?_
    rintro e w3 ⟨a2, c2, rfl, o2, hb⟩
    have HB_3 := hid (bstep (by go_grown) hb : Below w2.heap.size w2 w3)
    have B_3 := hid (bstep B_2.out HB_3.out)
    have S_3 := HB_3.out.size
    clear hb
    have O_x1 := hid o2
    clear o2
    go_wp2_with fail
    refine (i_ParallelFlow _ _ _ q L _ (O_x1.out.below (by go_grown)) HN.out x y z HR.out).mono ?_
    rintro e w4 ⟨rfl, hb⟩
    have HB_4 := hid (bstep (by go_grown) hb : Below w3.heap.size w3 w4)
    have B_4 := hid (bstep B_3.out HB_4.out)
    have S_4 := HB_4.out.size
    clear hb
    go_wp2_with fail
    refine (l_toCurvePointSS _ _ _ L _ ((H_L.out.below B_4.out).below (by go_grown)) HN.out).mono ?_
    rintro e w5 ⟨a3, c3, rfl, o3, hb⟩
    have HB_5 := hid (bstep (by go_grown) hb : Below w4.heap.size w4 w5)
    have B_5 := hid (bstep B_4.out HB_5.out)
    have S_5 := HB_5.out.size
    clear hb
    have O_y1 := hid o3
    clear o3
    have O_x1_5 := hid ((O_x1.out.below HB_4.out).below HB_5.out)
    go_wp2_with fail
    refine (l_eqCurvePointSS _ _ _ _ _ L _ (O_x1_5.out.below (by go_grown)) (O_y1.out.below (by go_grown)) HN.out).mono ?_
    rintro e w6 ⟨rfl, hb⟩
    have HB_6 := hid (bstep (by go_grown) hb : Below w5.heap.size w5 w6)
    have B_6 := hid (bstep B_5.out HB_6.out)
    have S_6 := HB_6.out.size
    clear hb
    go_wp2
    go_ret
    exact ⟨rfl, B_6.out⟩

set_option maxRecDepth 100000 in
theorem fnExactParallelFlow_lifted (os : Os) (started : os.Started) (H : Type) (enc : TypeId × Value → H) :
    ReturnsInHanded {} Try.checked os 11 .any (Rows.fnExactParallelFlowSpec.pre6 enc Try.prog Try.f11 Rows.fnExactParallelFlowRow.domain false) (Rows.fnExactParallelFlowSpec.post enc Try.prog Try.f11 false true false false) := by
  refine returnsInHanded_of_change (C := Try.checked) Try.own started (by kernel_rfl) Try.func11
    (ChangeSpec.witness6 (enc := enc) (C := Try.checked) false ⟨#[], #[.slice none 0 0, .int .i64 0], []⟩ 8 (by kernel_rfl) (by kernel_rfl) (by kernel_rfl) (by kernel_rfl)) ?_
  intro W base args ds gs before hval0 hW _ _
  have hval : ∀ (j : Nat) t v, Try.f11.params[j]? = some t → args[j]? = some v → Value.okWide Try.prog W .any base t v := hval0
  have hW' : DataW.Whole enc Try.prog Try.f11.params.toList Rows.fnExactParallelFlowSpec.vars false W args.toList ds gs before := hW
  obtain ⟨p, q, hA0, hV, rfl, hfz, hnd⟩ := hW
  have hlt : ∀ x ∈ p, x.block < W.heap.size := fun x hx => hW'.lt x (by simp [hx])
  have hA : DataW.TrodAll enc Try.prog W 0 (fun _ => true) true Try.f11.params.toList args.toList ds p := hA0
  rw [Try.params11] at hA hval
  clear hA0 hval0
  obtain ⟨v0, v1, d0, d1, p0, p1, rfl, rfl, rfl, h0, h1⟩ := trodAll_two hA
  obtain ⟨rfl, rfl⟩ := trodVars_none hV
  obtain ⟨x0, n0, k0, l0, rfl, g0, m0, b0⟩ := open_lists_at (hval 0 40 v0 rfl rfl) h0
  obtain ⟨i1, rfl, rfl, rfl, wi1⟩ := open_int Try.underlying3 (hval 1 3 v1 rfl rfl) h1
  refine (law_ParallelFlow x0 n0 k0 l0 i1 W g0 m0 b0).mono fun e W' ⟨he, hb⟩ => ?_
  subst he
  exact ⟨_, rfl, law_post rfl rfl (by kernel_rfl) hW' rfl rfl rfl hb⟩

theorem fnExactParallelFlow_proved : Rows.FnExactParallelFlowSaid :=
  OpenClaim.holds_of_wide 11 Try.f11 rfl rfl rfl rfl rfl rfl rfl ⟨rfl, rfl, rfl, rfl, rfl⟩ rfl rfl rfl rfl rfl (by kernel_rfl) Try.func11 (by kernel_rfl)
    (of_decide_eq_true (by kernel_rfl)) (by unfold Func.isWrapper; first | (rw [if_pos (by decide +kernel)]; kernel_rfl) | (rw [if_neg (by decide +kernel)]; exact ⟨rfl, rfl⟩))
    (fun os started H enc _ => fnExactParallelFlow_lifted os started H enc)

end Go.Proofs.Ytpcbeapajlchgaa
