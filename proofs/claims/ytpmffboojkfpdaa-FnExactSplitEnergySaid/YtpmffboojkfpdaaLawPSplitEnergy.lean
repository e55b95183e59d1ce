/-
  The law FnExactSplitEnergy returns true for every input, and leaves its arguments as they were. No condition.
-/
import Derived.Test.YtpmffboojkfpdaaSplit
import Derived.Test.YtpmffboojkfpdaaLift
set_option linter.unusedVariables false
set_option linter.unusedSimpArgs false
namespace Go.Proofs.Ytpmffboojkfpdaa
open Go.ChangeShapes Go.WideShapes Go.ChangeAt Go.RowKit Go.Joins Go.Deep

set_option maxHeartbeats 2000000 in
theorem law_SplitEnergy (a b : Option Addr) (n m c d : Nat) (s p : List Int) (w : World) (h : IntsAt w a n s) (h' : IntsAt w b m p) :
    Calls Try.prog 10 #[.slice a n c, .slice b m d] w fun e w' => e = .returned (.bool true) ∧ Below w.heap.size w w' := by
  have H_s := hid h
  have H_p := hid h'
  clear h h'
  by_cases hn : 1048576 < n
  · go_enter Try.func10, Try.ntmps10
    go_wp2
    go_ret
    exact ⟨rfl, by go_grown⟩
  by_cases hm : 1048576 < m
  · go_enter Try.func10, Try.ntmps10
    go_wp2
    go_ret
    exact ⟨rfl, by go_grown⟩
  obtain ⟨x, y, hR⟩ : ∃ x y, splitE s p = (x, y) := ⟨_, _, rfl⟩
  have HR := hid hR
  clear hR
  have hx : (x != x) = false := by simp
  have hy : (y != y) = false := by simp
  go_enter Try.func10, Try.ntmps10
  go_wp2_with fail
  refine (l_toIntS _ _ _ s _ (H_s.out.below (by go_grown)) (by omega)).mono ?_
  rintro e w1 ⟨a1, c1, rfl, o1, hb⟩
  have HB_1 := hid (bstep (by go_grown) hb : Below w.heap.size w w1)
  have B_1 := HB_1
  have S_1 := HB_1.out.size
  clear hb
  have O_s1 := hid o1
  clear o1
  go_wp2_with fail
  refine (l_toIntS _ _ _ p _ ((H_p.out.below B_1.out).below (by go_grown)) (by omega)).mono ?_
  rintro e w2 ⟨a2, c2, rfl, o2, hb⟩
  have HB_2 := hid (bstep (by go_grown) hb : Below w1.heap.size w1 w2)
  have B_2 := hid (bstep B_1.out HB_2.out)
  have S_2 := HB_2.out.size
  clear hb
  have O_s2 := hid o2
  clear o2
  have O_s1_2 := hid (O_s1.out.below HB_2.out)
  go_wp2_with fail
  refine (s_SplitEnergy _ _ _ _ _ _ s p _ (O_s1_2.out.at.below (by go_grown)) (O_s2.out.at.below (by go_grown)) (by omega) (by omega) x y HR.out).mono ?_
  rintro e w3 ⟨rfl, hb⟩
  have HB_3 := hid (bstep (by go_grown) hb : Below w2.heap.size w2 w3)
  have B_3 := hid (bstep B_2.out HB_3.out)
  have S_3 := HB_3.out.size
  clear hb
  go_wp2_with fail
  refine (l_toIntS _ _ _ s _ ((H_s.out.below B_3.out).below (by go_grown)) (by omega)).mono ?_
  rintro e w4 ⟨a3, c3, rfl, o3, hb⟩
  have HB_4 := hid (bstep (by go_grown) hb : Below w3.heap.size w3 w4)
  have B_4 := hid (bstep B_3.out HB_4.out)
  have S_4 := HB_4.out.size
  clear hb
  have O_x1 := hid o3
  clear o3
  go_wp2_with fail
  refine (l_toIntS _ _ _ p _ ((H_p.out.below B_4.out).below (by go_grown)) (by omega)).mono ?_
  rintro e w5 ⟨a4, c4, rfl, o4, hb⟩
  have HB_5 := hid (bstep (by go_grown) hb : Below w4.heap.size w4 w5)
  have B_5 := hid (bstep B_4.out HB_5.out)
  have S_5 := HB_5.out.size
  clear hb
  have O_x2 := hid o4
  clear o4
  have O_x1_5 := hid (O_x1.out.below HB_5.out)
  go_wp2_with fail
  refine (i_SplitEnergy _ _ _ _ _ _ s p _ (O_x1_5.out.at.below (by go_grown)) (O_x2.out.at.below (by go_grown)) (by omega) (by omega) x y HR.out).mono ?_
  rintro e w6 ⟨rfl, hb⟩
  have HB_6 := hid (bstep (by go_grown) hb : Below w5.heap.size w5 w6)
  have B_6 := hid (bstep B_5.out HB_6.out)
  have S_6 := HB_6.out.size
  clear hb
  go_wp2_with fail
  refine (l_toIntS _ _ _ s _ ((H_s.out.below B_6.out).below (by go_grown)) (by omega)).mono ?_
  rintro e w7 ⟨a5, c5, rfl, o5, hb⟩
  have HB_7 := hid (bstep (by go_grown) hb : Below w6.heap.size w6 w7)
  have B_7 := hid (bstep B_6.out HB_7.out)
  have S_7 := HB_7.out.size
  clear hb
  have O_y1 := hid o5
  clear o5
  have O_x1_7 := hid ((O_x1_5.out.below HB_6.out).below HB_7.out)
  go_wp2_with fail
  refine (l_eqIntS _ _ _ _ _ _ s s _ (O_x1_7.out.at.below (by go_grown)) (O_y1.out.at.below (by go_grown)) (by omega) (by omega)).mono ?_
  rintro e w8 ⟨rfl, hb⟩
  have HB_8 := hid (bstep (by go_grown) hb : Below w7.heap.size w7 w8)
  have B_8 := hid (bstep B_7.out HB_8.out)
  have S_8 := HB_8.out.size
  clear hb
  go_wp2_with fail
  refine (l_toIntS _ _ _ p _ ((H_p.out.below B_8.out).below (by go_grown)) (by omega)).mono ?_
  rintro e w9 ⟨a6, c6, rfl, o6, hb⟩
  have HB_9 := hid (bstep (by go_grown) hb : Below w8.heap.size w8 w9)
  have B_9 := hid (bstep B_8.out HB_9.out)
  have S_9 := HB_9.out.size
  clear hb
  have O_y2 := hid o6
  clear o6
  have O_x2_9 := hid ((((O_x2.out.below HB_6.out).below HB_7.out).below HB_8.out).below HB_9.out)
  go_wp2_with fail
  refine (l_eqIntS _ _ _ _ _ _ p p _ (O_x2_9.out.at.below (by go_grown)) (O_y2.out.at.below (by go_grown)) (by omega) (by omega)).mono ?_
  rintro e w10 ⟨rfl, hb⟩
  have HB_10 := hid (bstep (by go_grown) hb : Below w9.heap.size w9 w10)
  have B_10 := hid (bstep B_9.out HB_10.out)
  have S_10 := HB_10.out.size
  clear hb
  go_wp2
  go_ret
  exact ⟨rfl, B_10.out⟩

set_option maxRecDepth 100000 in
theorem fnExactSplitEnergy_lifted (os : Os) (started : os.Started) (H : Type) (enc : TypeId × Value → H) :
    ReturnsInHanded {} Try.checked os 10 .any (Rows.fnExactSplitEnergySpec.pre6 enc Try.prog Try.f10 Rows.fnExactSplitEnergyRow.domain false) (Rows.fnExactSplitEnergySpec.post enc Try.prog Try.f10 false true false false) := by
  refine returnsInHanded_of_change (C := Try.checked) Try.own started (by kernel_rfl) Try.func10
    (ChangeSpec.witness6 (enc := enc) (C := Try.checked) false ⟨#[], #[.slice none 0 0, .slice none 0 0], []⟩ 8 (by kernel_rfl) (by kernel_rfl) (by kernel_rfl) (by kernel_rfl)) ?_
  intro W base args ds gs before hval0 hW _ _
  have hval : ∀ (j : Nat) t v, Try.f10.params[j]? = some t → args[j]? = some v → Value.okWide Try.prog W .any base t v := hval0
  have hW' : DataW.Whole enc Try.prog Try.f10.params.toList Rows.fnExactSplitEnergySpec.vars false W args.toList ds gs before := hW
  obtain ⟨p, q, hA0, hV, rfl, hfz, hnd⟩ := hW
  have hlt : ∀ x ∈ p, x.block < W.heap.size := fun x hx => hW'.lt x (by simp [hx])
  have hA : DataW.TrodAll enc Try.prog W 0 (fun _ => true) true Try.f10.params.toList args.toList ds p := hA0
  rw [Try.params10] at hA hval
  clear hA0 hval0
  obtain ⟨v0, v1, d0, d1, p0, p1, rfl, rfl, rfl, h0, h1⟩ := trodAll_two hA
  obtain ⟨rfl, rfl⟩ := trodVars_none hV
  obtain ⟨x0, n0, k0, l0, rfl, g0, b0⟩ := open_ints_at (hval 0 22 v0 rfl rfl) h0
  obtain ⟨x1, n1, k1, l1, rfl, g1, b1⟩ := open_ints_at (hval 1 22 v1 rfl rfl) h1
  refine (law_SplitEnergy x0 x1 n0 n1 k0 k1 l0 l1 W g0 g1).mono fun e W' ⟨he, hb⟩ => ?_
  subst he
  exact ⟨_, rfl, law_post rfl rfl (by kernel_rfl) hW' rfl rfl rfl hb⟩

theorem fnExactSplitEnergy_proved : Rows.FnExactSplitEnergySaid :=
  OpenClaim.holds_of_wide 10 Try.f10 rfl rfl rfl rfl rfl rfl rfl ⟨rfl, rfl, rfl, rfl, rfl⟩ rfl rfl rfl rfl rfl (by kernel_rfl) Try.func10 (by kernel_rfl)
    (of_decide_eq_true (by kernel_rfl)) (by unfold Func.isWrapper; first | (rw [if_pos (by decide +kernel)]; kernel_rfl) | (rw [if_neg (by decide +kernel)]; exact ⟨rfl, rfl⟩))
    (fun os started H enc _ => fnExactSplitEnergy_lifted os started H enc)

end Go.Proofs.Ytpmffboojkfpdaa
