/-
  The law FnExactIsTreeNetwork returns true for every input, and leaves its arguments as they were. No condition.
-/
import Derived.Test.YtheaagbffphdmaaRing
import Derived.Test.YtheaagbffphdmaaNetC
import Derived.Test.YtheaagbffphdmaaLiftN
set_option linter.unusedVariables false
set_option linter.unusedSimpArgs false
namespace Go.Proofs.Ytheaagbffphdmaa
open Go.ChangeShapes Go.WideShapes Go.ChangeAt Go.RowKit Go.Joins Go.Deep

set_option maxHeartbeats 2000000 in
theorem law_IsTreeNetwork (N : Int) (a : Option Addr) (n c : Nat) (l : List Pip) (w : World) (h : QAt w a n l) (hmax : n ≤ 9223372036854775807) :
    Calls Try.prog 9 #[.agg #[.int .i64 N, .slice a n c]] w fun e w' => e = .returned (.bool true) ∧ Below w.heap.size w w' := by
  have H_l := hid h
  clear h
  by_cases hn : 1048576 < n
  · go_enter Try.func9, Try.ntmps9
    go_wp2_with fail
    refine (l_szNetwork_no _ _ _ _ _ (by omega) (by omega)).mono ?_
    rintro e w1 ⟨rfl, hb⟩
    go_wp2
    go_ret
    exact ⟨rfl, bstep (by go_grown) hb⟩
  obtain ⟨x, y, hR⟩ : ∃ x y, treeR N l = (x, y) := ⟨_, _, rfl⟩
  have HR := hid hR
  clear hR
  have hx : (x != x) = false := by simp
  have hy : (y != y) = false := by simp
  go_enter Try.func9, Try.ntmps9
  go_wp2_with fail
  refine (l_szNetwork_yes _ _ _ _ _ (by omega)).mono ?_
  rintro e w1 ⟨rfl, hb⟩
  have HB_1 := hid (bstep (by go_grown) hb : Below w.heap.size w w1)
  have B_1 := HB_1
  have S_1 := HB_1.out.size
  have T_1_1 : Hid (w1.heap[w.heap.size]? = some (.cells #[.int .i64 N, .slice a n c] 24 (0, 0))) := hid (by rw [hb.block _ (by simp <;> omega)]; exact heap_alloc_new _ _)
  have m_1_1_0 : w1.cell? ⟨w.heap.size, 0, none⟩ = some (.int .i64 N) := by rw [cell_of_row w1 _ _ _ _ (0, 0) T_1_1.out]; rfl
  have m_1_1_1 : w1.cell? ⟨w.heap.size, 1, none⟩ = some (.slice a n c) := by rw [cell_of_row w1 _ _ _ _ (0, 0) T_1_1.out]; rfl
  have z_1_1 : w.heap.size < w1.heap.size := (Array.getElem?_eq_some_iff.1 T_1_1.out).1
  clear hb
  go_wp2_with fail
  refine (l_toNetwork _ _ _ _ l _ ((H_l.out.below B_1.out).below (by go_grown)) (by omega)).mono ?_
  rintro e w2 ⟨a1, c1, rfl, o1, hb⟩
  have HB_2 := hid (bstep (by go_grown) hb : Below w1.heap.size w1 w2)
  have B_2 := hid (bstep B_1.out HB_2.out)
  have S_2 := HB_2.out.size
  have T_2_1 := hid ((HB_2.out.block w.heap.size (Array.getElem?_eq_some_iff.1 T_1_1.out).1).trans T_1_1.out)
  clear m_1_1_0 m_1_1_1 z_1_1
  have m_2_1_0 : w2.cell? ⟨w.heap.size, 0, none⟩ = some (.int .i64 N) := by rw [cell_of_row w2 _ _ _ _ (0, 0) T_2_1.out]; rfl
  have m_2_1_1 : w2.cell? ⟨w.heap.size, 1, none⟩ = some (.slice a n c) := by rw [cell_of_row w2 _ _ _ _ (0, 0) T_2_1.out]; rfl
  have z_2_1 : w.heap.size < w2.heap.size := (Array.getElem?_eq_some_iff.1 T_2_1.out).1
  clear hb
  have O_s1 := hid o1
  clear o1
  go_wp2_with fail
  refine (s_IsTreeNetwork N _ _ _ l _ ((OwnS.at qf_len O_s1.out).below (by go_grown)) (by omega) x y HR.out).mono ?_
  rintro e w3 ⟨rfl, hb⟩
  have HB_3 := hid (bstep (by go_grown) hb : Below w2.heap.size w2 w3)
  have B_3 := hid (bstep B_2.out HB_3.out)
  have S_3 := HB_3.out.size
  have T_3_1 := hid ((HB_3.out.block w.heap.size (Array.getElem?_eq_some_iff.1 T_2_1.out).1).trans T_2_1.out)
  clear m_2_1_0 m_2_1_1 z_2_1
  have m_3_1_0 : w3.cell? ⟨w.heap.size, 0, none⟩ = some (.int .i64 N) := by rw [cell_of_row w3 _ _ _ _ (0, 0) T_3_1.out]; rfl
  have m_3_1_1 : w3.cell? ⟨w.heap.size, 1, none⟩ = some (.slice a n c) := by rw [cell_of_row w3 _ _ _ _ (0, 0) T_3_1.out]; rfl
  have z_3_1 : w.heap.size < w3.heap.size := (Array.getElem?_eq_some_iff.1 T_3_1.out).1
  clear hb
  go_wp2_with fail
  refine (l_toNetwork _ _ _ _ l _ ((H_l.out.below B_3.out).below (by go_grown)) (by omega)).mono ?_
  rintro e w4 ⟨a2, c2, rfl, o2, hb⟩
  have HB_4 := hid (bstep (by go_grown) hb : Below w3.heap.size w3 w4)
  have B_4 := hid (bstep B_3.out HB_4.out)
  have S_4 := HB_4.out.size
  have T_4_1 := hid ((HB_4.out.block w.heap.size (Array.getElem?_eq_some_iff.1 T_3_1.out).1).trans T_3_1.out)
  clear m_3_1_0 m_3_1_1 z_3_1
  have m_4_1_0 : w4.cell? ⟨w.heap.size, 0, none⟩ = some (.int .i64 N) := by rw [cell_of_row w4 _ _ _ _ (0, 0) T_4_1.out]; rfl
  have m_4_1_1 : w4.cell? ⟨w.heap.size, 1, none⟩ = some (.slice a n c) := by rw [cell_of_row w4 _ _ _ _ (0, 0) T_4_1.out]; rfl
  have z_4_1 : w.heap.size < w4.heap.size := (Array.getElem?_eq_some_iff.1 T_4_1.out).1
  clear hb
  have O_x0 := hid o2
  clear o2
  go_wp2_with fail
  refine (i_IsTreeNetwork N _ _ _ l _ ((OwnS.at qf_len O_x0.out).below (by go_grown)) (by omega) x y HR.out).mono ?_
  rintro e w5 ⟨rfl, hb⟩
  have HB_5 := hid (bstep (by go_grown) hb : Below w4.heap.size w4 w5)
  have B_5 := hid (bstep B_4.out HB_5.out)
  have S_5 := HB_5.out.size
  have T_5_1 := hid ((HB_5.out.block w.heap.size (Array.getElem?_eq_some_iff.1 T_4_1.out).1).trans T_4_1.out)
  have T_5_2 : Hid (w5.heap[w4.heap.size]? = some (.cells #[.int .i64 N, .slice a2 n c2] 31 (0, 0))) := hid (by rw [hb.block _ (by simp <;> omega)]; exact heap_alloc_new _ _)
  clear m_4_1_0 m_4_1_1 z_4_1
  have m_5_1_0 : w5.cell? ⟨w.heap.size, 0, none⟩ = some (.int .i64 N) := by rw [cell_of_row w5 _ _ _ _ (0, 0) T_5_1.out]; rfl
  have m_5_1_1 : w5.cell? ⟨w.heap.size, 1, none⟩ = some (.slice a n c) := by rw [cell_of_row w5 _ _ _ _ (0, 0) T_5_1.out]; rfl
  have z_5_1 : w.heap.size < w5.heap.size := (Array.getElem?_eq_some_iff.1 T_5_1.out).1
  have m_5_2_0 : w5.cell? ⟨w4.heap.size, 0, none⟩ = some (.int .i64 N) := by rw [cell_of_row w5 _ _ _ _ (0, 0) T_5_2.out]; rfl
  have m_5_2_1 : w5.cell? ⟨w4.heap.size, 1, none⟩ = some (.slice a2 n c2) := by rw [cell_of_row w5 _ _ _ _ (0, 0) T_5_2.out]; rfl
  have z_5_2 : w4.heap.size < w5.heap.size := (Array.getElem?_eq_some_iff.1 T_5_2.out).1
  clear hb
  have HA := hid (H_l.out.below B_5.out : QAt w5 _ _ _)
  have O_x0_5 := hid (O_x0.out.below HB_5.out)
  have HX := hid (OwnS.at qf_len O_x0_5.out)
  go_upto_region 10 with fail
  have q0 : ∀ wy wz : World, Below wy.heap.size wy wz → (wy.cell? ⟨w.heap.size, 0, none⟩ = some (.int .i64 N) ∧ wy.cell? ⟨w.heap.size, 1, none⟩ = some (.slice a n c) ∧ wy.cell? ⟨w4.heap.size, 0, none⟩ = some (.int .i64 N) ∧ wy.cell? ⟨w4.heap.size, 1, none⟩ = some (.slice a2 n c2)) → (wz.cell? ⟨w.heap.size, 0, none⟩ = some (.int .i64 N) ∧ wz.cell? ⟨w.heap.size, 1, none⟩ = some (.slice a n c) ∧ wz.cell? ⟨w4.heap.size, 0, none⟩ = some (.int .i64 N) ∧ wz.cell? ⟨w4.heap.size, 1, none⟩ = some (.slice a2 n c2)) :=
    fun wy wz hb ⟨z0, z1, z2, z3⟩ => ⟨(hb.cell (World.block_lt_of_cell? wy _ z0)).trans z0, (hb.cell (World.block_lt_of_cell? wy _ z1)).trans z1, (hb.cell (World.block_lt_of_cell? wy _ z2)).trans z2, (hb.cell (World.block_lt_of_cell? wy _ z3)).trans z3⟩
  have Q0 := hid q0
  clear q0
  go_cut [39] (fun s wx => s = .bool false ∧ Hid (Below w5.heap.size w5 wx))
  case first =>
    go_region_held3 (fun w' => (w'.cell? ⟨w.heap.size, 0, none⟩ = some (.int .i64 N) ∧ w'.cell? ⟨w.heap.size, 1, none⟩ = some (.slice a n c) ∧ w'.cell? ⟨w4.heap.size, 0, none⟩ = some (.int .i64 N) ∧ w'.cell? ⟨w4.heap.size, 1, none⟩ = some (.slice a2 n c2))) (first | go_keep | exact Q0.out _ _ (by assumption) (by first | assumption | (refine ⟨?_, ?_, ?_, ?_⟩ <;> assumption) | simp [*]))
      (first | (go_at_call 17; refine (l_toNetwork _ _ _ _ _ _ (HA.out.below (by go_grown)) (by omega)).mono ?_; rintro e wA ⟨aA, cA, rfl, oA, hbA⟩; obtain ⟨hcA, hfA⟩ := bcell hbA) | (go_at_call 20; refine (l_eqNetwork _ _ _ _ _ _ _ _ (HX.out.below (bstep (by go_grown) hbA)) (OwnS.at qf_len oA) (by omega)).mono ?_; rintro e wB ⟨rfl, hbB⟩; obtain ⟨hcB, hfB⟩ := bcell hbB))
    all_goals (go_wp2_with fail; go_meet)
    all_goals refine ⟨rfl, ?_⟩
    all_goals exact bstep (bstep ((Below.refl _ _).drew : Below w5.heap.size w5 _) hbA) hbB
  case rest =>
    obtain ⟨rfl, hx⟩ := hcut
    have HB_6 := hx
    have B_6 := hid (bstep B_5.out HB_6.out)
    have S_6 := HB_6.out.size
    go_wp2
    go_ret
    exact ⟨rfl, B_6.out⟩

set_option maxRecDepth 100000 in
theorem fnExactIsTreeNetwork_lifted (os : Os) (started : os.Started) (H : Type) (enc : TypeId × Value → H) :
    ReturnsInHanded {} Try.checked os 9 .any (Rows.fnExactIsTreeNetworkSpec.pre6 enc Try.prog Try.f9 Rows.fnExactIsTreeNetworkRow.domain false) (Rows.fnExactIsTreeNetworkSpec.post enc Try.prog Try.f9 false true false false) := by
  refine returnsInHanded_of_change (C := Try.checked) Try.own started (by kernel_rfl) Try.func9
    (ChangeSpec.witness6 (enc := enc) (C := Try.checked) false ⟨#[], #[.agg #[.int .i64 0, .slice none 0 0]], []⟩ 8 (by kernel_rfl) (by kernel_rfl) (by kernel_rfl) (by kernel_rfl)) ?_
  intro W base args ds gs before hval0 hW _ _
  have hval : ∀ (j : Nat) t v, Try.f9.params[j]? = some t → args[j]? = some v → Value.okWide Try.prog W .any base t v := hval0
  have hW' : DataW.Whole enc Try.prog Try.f9.params.toList Rows.fnExactIsTreeNetworkSpec.vars false W args.toList ds gs before := hW
  obtain ⟨p, q, hA0, hV, rfl, hfz, hnd⟩ := hW
  have hlt : ∀ x ∈ p, x.block < W.heap.size := fun x hx => hW'.lt x (by simp [hx])
  have hA : DataW.TrodAll enc Try.prog W 0 (fun _ => true) true Try.f9.params.toList args.toList ds p := hA0
  rw [Try.params9] at hA hval
  clear hA0 hval0
  obtain ⟨v0, d0, rfl, rfl, h0⟩ := trodAll_one hA
  obtain ⟨rfl, rfl⟩ := trodVars_none hV
  obtain ⟨N0, x0, n0, k0, l0, rfl, g0, m0⟩ := open_net (hval 0 24 v0 rfl rfl) h0
  refine (law_IsTreeNetwork N0 x0 n0 k0 l0 W g0 m0).mono fun e W' ⟨he, hb⟩ => ?_
  subst he
  exact ⟨_, rfl, law_post rfl rfl (by kernel_rfl) hW' rfl rfl rfl hb⟩

theorem fnExactIsTreeNetwork_proved : Rows.FnExactIsTreeNetworkSaid :=
  OpenClaim.holds_of_wide 9 Try.f9 rfl rfl rfl rfl rfl rfl rfl ⟨rfl, rfl, rfl, rfl, rfl⟩ rfl rfl rfl rfl rfl (by kernel_rfl) Try.func9 (by kernel_rfl)
    (of_decide_eq_true (by kernel_rfl)) (by unfold Func.isWrapper; first | (rw [if_pos (by decide +kernel)]; kernel_rfl) | (rw [if_neg (by decide +kernel)]; exact ⟨rfl, rfl⟩))
    (fun os started H enc _ => fnExactIsTreeNetwork_lifted os started H enc)

end Go.Proofs.Ytheaagbffphdmaa
