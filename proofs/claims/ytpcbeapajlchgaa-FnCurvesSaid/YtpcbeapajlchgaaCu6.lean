/-
  Texts of this claim, joined: LawCIsAbove, CurveQ, CurveQ2, RCurve, LawG.
-/
import Derived.Test.YtpcbeapajlchgaaCu2
import Derived.Test.YtpcbeapajlchgaaCu3
import Derived.Test.YtpcbeapajlchgaaCu5
/-
  The law FnExactIsAbove returns true for every input, and leaves its arguments as they were. No condition.
-/
set_option linter.unusedVariables false
set_option linter.unusedSimpArgs false
namespace Go.Proofs.Ytpcbeapajlchgaa
open Go.ChangeShapes Go.WideShapes Go.ChangeAt Go.RowKit Go.Joins Go.Deep

theorem l_szLeft_yes (a : Option Addr) (n c : Nat) (left : Int) (w : World) (hn : (n : Int) ≤ left) (h : left ≤ 1048576) : Calls Try.prog 15 #[.slice a n c, .int .i64 left] w fun e w' => e = .returned (.int .i64 (left - (n : Int))) ∧ w = w' := by
  go_enter Try.func15, Try.ntmps15
  go_wp2
  go_ret
  exact ⟨rfl, rfl⟩
theorem l_szLeft_no (a : Option Addr) (n c : Nat) (left : Int) (w : World) (hn : left < (n : Int)) (h : 0 ≤ left ∧ left ≤ 1048576) (hn2 : n ≤ 9223372036854775807) : Calls Try.prog 15 #[.slice a n c, .int .i64 left] w fun e w' => e = .returned (.int .i64 (-1)) ∧ w = w' := by
  go_enter Try.func15, Try.ntmps15
  go_wp2
  go_ret
  exact ⟨rfl, rfl⟩

theorem i_IsAbove (pa pb : Option Addr) (n c m d : Nat) (a b : List Pt) (w : World) (h : PAt w pa n a) (h' : PAt w pb m b) (hn : n ≤ 1048576) (hm : m ≤ 1048576) (x y : Bool) (hR : aboveR a b = (x, y)) :
    Calls Try.prog 33 #[.slice pa n c, .slice pb m d] w fun e w' => e = .returned (.tuple #[.bool x, .bool y]) ∧ Below w.heap.size w w' := by
  by_cases hv : goodCurve a = true ∧ goodCurve b = true
  · have e0 : aboveR a b = (!((a ++ b).any fun p => under a n b m p.1), true) := by
      unfold aboveR
      rw [if_pos hv, h.1, h'.1]
    rw [e0] at hR
    cases hR
    exact i_IsAbove_yes pa pb n c m d a b w h h' hv.1 hv.2
  · have hno : goodCurve a = false ∨ goodCurve b = false := by
      cases h1 : goodCurve a
      · exact .inl rfl
      · cases h2 : goodCurve b
        · exact .inr rfl
        · exact absurd ⟨h1, h2⟩ hv
    rw [aboveR_no hno] at hR
    cases hR
    exact i_IsAbove_no pa pb n c m d a b w h h' hn hm hno

theorem s_IsAbove (pa pb : Option Addr) (n c m d : Nat) (a b : List Pt) (w : World) (h : PAt w pa n a) (h' : PAt w pb m b) (hn : n ≤ 1048576) (hm : m ≤ 1048576) (x y : Bool) (hR : aboveR a b = (x, y)) :
    Calls Try.prog 32 #[.slice pa n c, .slice pb m d] w fun e w' => e = .returned (.tuple #[.bool x, .bool y]) ∧ Below w.heap.size w w' := by
  by_cases hv : goodCurve a = true ∧ goodCurve b = true
  · have e0 : aboveR a b = (!((a ++ b).any fun p => under a n b m p.1), true) := by
      unfold aboveR
      rw [if_pos hv, h.1, h'.1]
    rw [e0] at hR
    cases hR
    exact s_IsAbove_yes pa pb n c m d a b w h h' hv.1 hv.2
  · have hno : goodCurve a = false ∨ goodCurve b = false := by
      cases h1 : goodCurve a
      · exact .inl rfl
      · cases h2 : goodCurve b
        · exact .inr rfl
        · exact absurd ⟨h1, h2⟩ hv
    rw [aboveR_no hno] at hR
    cases hR
    exact s_IsAbove_no pa pb n c m d a b w h h' hn hm hno

set_option maxHeartbeats 2000000 in
theorem law_IsAbove (a b : Option Addr) (n m c d : Nat) (l f : List Pt) (w : World) (h : PAt w a n l) (h' : PAt w b m f) (hmax : n ≤ 9223372036854775807) (hmax2 : m ≤ 9223372036854775807) :
    Calls Try.prog 9 #[.slice a n c, .slice b m d] w fun e w' => e = .returned (.bool true) ∧ Below w.heap.size w w' := by
  have H_l := hid h
  have H_f := hid h'
  clear h h'
  by_cases hn : 1048576 < n
  · go_enter Try.func9, Try.ntmps9
    go_wp2_with fail
    refine (l_szCurvePointS_no _ _ _ _ (by omega) (by omega)).mono ?_
    rintro e _ ⟨rfl, rfl⟩
    go_wp2
    go_ret
    exact ⟨rfl, by go_grown⟩
  by_cases hm : 1048576 - (n : Int) < (m : Int)
  · go_enter Try.func9, Try.ntmps9
    go_wp2_with fail
    refine (l_szCurvePointS_yes _ _ _ _ (by omega)).mono ?_
    rintro e _ ⟨rfl, rfl⟩
    go_wp2_with fail
    refine (l_szLeft_no _ _ _ _ _ (by omega) (by omega) (by omega)).mono ?_
    rintro e _ ⟨rfl, rfl⟩
    go_wp2
    go_ret
    exact ⟨rfl, by go_grown⟩
  obtain ⟨x, y, hR⟩ : ∃ x y, aboveR l f = (x, y) := ⟨_, _, rfl⟩
  have HR := hid hR
  clear hR
  have hx : (x != x) = false := by simp
  have hy : (y != y) = false := by simp
  go_enter Try.func9, Try.ntmps9
  go_wp2_with fail
  refine (l_szCurvePointS_yes _ _ _ _ (by omega)).mono ?_
  rintro e _ ⟨rfl, rfl⟩
  go_wp2_with fail
  refine (l_szLeft_yes _ _ _ _ _ (by omega) (by omega)).mono ?_
  rintro e _ ⟨rfl, rfl⟩
  go_wp2_with fail
  refine (l_toCurvePointS _ _ _ l _ (H_l.out.below (by go_grown)) (by omega)).mono ?_
  rintro e w1 ⟨a1, c1, rfl, o1, hb⟩
  have HB_1 := hid (bstep (by go_grown) hb : Below w.heap.size w w1)
  have B_1 := HB_1
  have S_1 := HB_1.out.size
  clear hb
  have O_s1 := hid o1
  clear o1
  go_wp2_with fail
  refine (l_toCurvePointS _ _ _ f _ ((H_f.out.below B_1.out).below (by go_grown)) (by omega)).mono ?_
  rintro e w2 ⟨a2, c2, rfl, o2, hb⟩
  have HB_2 := hid (bstep (by go_grown) hb : Below w1.heap.size w1 w2)
  have B_2 := hid (bstep B_1.out HB_2.out)
  have S_2 := HB_2.out.size
  clear hb
  have O_s2 := hid o2
  clear o2
  have O_s1_2 := hid (O_s1.out.below HB_2.out)
  go_wp2_with fail
  refine (s_IsAbove _ _ _ _ _ _ l f _ ((OwnS.at pf_len O_s1_2.out).below (by go_grown)) ((OwnS.at pf_len O_s2.out).below (by go_grown)) (by omega) (by omega) x y HR.out).mono ?_
  rintro e w3 ⟨rfl, hb⟩
  have HB_3 := hid (bstep (by go_grown) hb : Below w2.heap.size w2 w3)
  have B_3 := hid (bstep B_2.out HB_3.out)
  have S_3 := HB_3.out.size
  clear hb
  go_wp2_with fail
  refine (l_toCurvePointS _ _ _ l _ ((H_l.out.below B_3.out).below (by go_grown)) (by omega)).mono ?_
  rintro e w4 ⟨a3, c3, rfl, o3, hb⟩
  have HB_4 := hid (bstep (by go_grown) hb : Below w3.heap.size w3 w4)
  have B_4 := hid (bstep B_3.out HB_4.out)
  have S_4 := HB_4.out.size
  clear hb
  have O_x1 := hid o3
  clear o3
  go_wp2_with fail
  refine (l_toCurvePointS _ _ _ f _ ((H_f.out.below B_4.out).below (by go_grown)) (by omega)).mono ?_
  rintro e w5 ⟨a4, c4, rfl, o4, hb⟩
  have HB_5 := hid (bstep (by go_grown) hb : Below w4.heap.size w4 w5)
  have B_5 := hid (bstep B_4.out HB_5.out)
  have S_5 := HB_5.out.size
  clear hb
  have O_x2 := hid o4
  clear o4
  have O_x1_5 := hid (O_x1.out.below HB_5.out)
  go_wp2_with fail
  refine (i_IsAbove _ _ _ _ _ _ l f _ ((OwnS.at pf_len O_x1_5.out).below (by go_grown)) ((OwnS.at pf_len O_x2.out).below (by go_grown)) (by omega) (by omega) x y HR.out).mono ?_
  rintro e w6 ⟨rfl, hb⟩
  have HB_6 := hid (bstep (by go_grown) hb : Below w5.heap.size w5 w6)
  have B_6 := hid (bstep B_5.out HB_6.out)
  have S_6 := HB_6.out.size
  clear hb
  go_wp2_with fail
  refine (l_toCurvePointS _ _ _ l _ ((H_l.out.below B_6.out).below (by go_grown)) (by omega)).mono ?_
  rintro e w7 ⟨a5, c5, rfl, o5, hb⟩
  have HB_7 := hid (bstep (by go_grown) hb : Below w6.heap.size w6 w7)
  have B_7 := hid (bstep B_6.out HB_7.out)
  have S_7 := HB_7.out.size
  clear hb
  have O_y1 := hid o5
  clear o5
  have O_x1_7 := hid ((O_x1_5.out.below HB_6.out).below HB_7.out)
  go_wp2_with fail
  refine (l_eqCurvePointS _ _ _ _ _ l _ ((OwnS.at pf_len O_x1_7.out).below (by go_grown)) ((OwnS.at pf_len O_y1.out).below (by go_grown)) (by omega)).mono ?_
  rintro e w8 ⟨rfl, hb⟩
  have HB_8 := hid (bstep (by go_grown) hb : Below w7.heap.size w7 w8)
  have B_8 := hid (bstep B_7.out HB_8.out)
  have S_8 := HB_8.out.size
  clear hb
  go_wp2_with fail
  refine (l_toCurvePointS _ _ _ f _ ((H_f.out.below B_8.out).below (by go_grown)) (by omega)).mono ?_
  rintro e w9 ⟨a6, c6, rfl, o6, hb⟩
  have HB_9 := hid (bstep (by go_grown) hb : Below w8.heap.size w8 w9)
  have B_9 := hid (bstep B_8.out HB_9.out)
  have S_9 := HB_9.out.size
  clear hb
  have O_y2 := hid o6
  clear o6
  have O_x2_9 := hid ((((O_x2.out.below HB_6.out).below HB_7.out).below HB_8.out).below HB_9.out)
  go_wp2_with fail
  refine (l_eqCurvePointS _ _ _ _ _ f _ ((OwnS.at pf_len O_x2_9.out).below (by go_grown)) ((OwnS.at pf_len O_y2.out).below (by go_grown)) (by omega)).mono ?_
  rintro e w10 ⟨rfl, hb⟩
  have HB_10 := hid (bstep (by go_grown) hb : Below w9.heap.size w9 w10)
  have B_10 := hid (bstep B_9.out HB_10.out)
  have S_10 := HB_10.out.size
  clear hb
  go_wp2
  go_ret
  exact ⟨rfl, B_10.out⟩

set_option maxRecDepth 100000 in
theorem fnExactIsAbove_lifted (os : Os) (started : os.Started) (H : Type) (enc : TypeId × Value → H) :
    ReturnsInHanded {} Try.checked os 9 .any (Rows.fnExactIsAboveSpec.pre6 enc Try.prog Try.f9 Rows.fnExactIsAboveRow.domain false) (Rows.fnExactIsAboveSpec.post enc Try.prog Try.f9 false true false false) := by
  refine returnsInHanded_of_change (C := Try.checked) Try.own started (by kernel_rfl) Try.func9
    (ChangeSpec.witness6 (enc := enc) (C := Try.checked) false ⟨#[], #[.slice none 0 0, .slice none 0 0], []⟩ 8 (by kernel_rfl) (by kernel_rfl) (by kernel_rfl) (by kernel_rfl)) ?_
  intro W base args ds gs before hval0 hW _ _
  have hval : ∀ (j : Nat) t v, Try.f9.params[j]? = some t → args[j]? = some v → Value.okWide Try.prog W .any base t v := hval0
  have hW' : DataW.Whole enc Try.prog Try.f9.params.toList Rows.fnExactIsAboveSpec.vars false W args.toList ds gs before := hW
  obtain ⟨p, q, hA0, hV, rfl, hfz, hnd⟩ := hW
  have hlt : ∀ x ∈ p, x.block < W.heap.size := fun x hx => hW'.lt x (by simp [hx])
  have hA : DataW.TrodAll enc Try.prog W 0 (fun _ => true) true Try.f9.params.toList args.toList ds p := hA0
  rw [Try.params9] at hA hval
  clear hA0 hval0
  obtain ⟨v0, v1, d0, d1, p0, p1, rfl, rfl, rfl, h0, h1⟩ := trodAll_two hA
  obtain ⟨rfl, rfl⟩ := trodVars_none hV
  obtain ⟨x0, n0, k0, l0, rfl, g0, m0, b0⟩ := open_pts_at (hval 0 22 v0 rfl rfl) h0
  obtain ⟨x1, n1, k1, l1, rfl, g1, m1, b1⟩ := open_pts_at (hval 1 22 v1 rfl rfl) h1
  refine (law_IsAbove x0 x1 n0 n1 k0 k1 l0 l1 W g0 g1 m0 m1).mono fun e W' ⟨he, hb⟩ => ?_
  subst he
  exact ⟨_, rfl, law_post rfl rfl (by kernel_rfl) hW' rfl rfl rfl hb⟩

theorem fnExactIsAbove_proved : Rows.FnExactIsAboveSaid :=
  OpenClaim.holds_of_wide 9 Try.f9 rfl rfl rfl rfl rfl rfl rfl ⟨rfl, rfl, rfl, rfl, rfl⟩ rfl rfl rfl rfl rfl (by kernel_rfl) Try.func9 (by kernel_rfl)
    (of_decide_eq_true (by kernel_rfl)) (by unfold Func.isWrapper; first | (rw [if_pos (by decide +kernel)]; kernel_rfl) | (rw [if_neg (by decide +kernel)]; exact ⟨rfl, rfl⟩))
    (fun os started H enc _ => fnExactIsAbove_lifted os started H enc)

end Go.Proofs.Ytpcbeapajlchgaa

/-
  What the answers on curves say of one another (plain), and the answers of HeadAt, FlowAt, RaiseCurve under one name.
-/
set_option linter.unusedVariables false
set_option linter.unusedSimpArgs false
namespace Go.Proofs.Ytpcbeapajlchgaa
open Go.RowKit

theorem low_exact {D : Int} (h : Int) (hD : 0 < D) : lowN (h * D) D = h ∧ lowD (h * D) D = 1 := by
  have e : gd (h * D) D = D := by
    unfold gd
    rw [Int.natAbs_mul, Nat.gcd_mul_left_left]
    omega
  unfold lowN lowD
  rw [e]
  exact ⟨Int.mul_tdiv_cancel h (by omega), Int.ediv_self (by omega)⟩
theorem low_one {a b : Int} (hb : 0 < b) (h : lowD a b = 1) : a = lowN a b * b := by
  have := low_eq (a := a) hb
  rw [h, Int.mul_one] at this
  exact this.symm
theorem seg_unique {n : Nat} {p : Nat → Prop} {j k : Nat} (hj : Seg n p j) (hk : Seg n p k) : j = k := by
  obtain ⟨a1, a2, a3, a4⟩ := hj
  obtain ⟨b1, b2, b3, b4⟩ := hk
  rcases Nat.lt_trichotomy j k with h | h | h
  · exact absurd a4 (b3 j a1 h)
  · exact h
  · exact absurd b4 (a3 k b1 h)
theorem pt_mono {l : List Pt} {n : Nat} (hg : goodCurve l = true) (hn : l.length = n) : ∀ (d j : Nat), 0 < d → j + d < n → (pt l j).1 < (pt l (j + d)).1 ∧ (pt l (j + d)).2 < (pt l j).2
  | 0, j, h, _ => by omega
  | d + 1, j, _, hk => by
    have h1 := pt_step hg hn (k := j + (d + 1)) (by omega) (by omega)
    rw [show j + (d + 1) - 1 = j + d by omega] at h1
    by_cases hd : d = 0
    · subst hd
      exact h1
    · have ih := pt_mono hg hn d j (by omega) (by omega)
      omega
theorem pt_lt {l : List Pt} {n j k : Nat} (hg : goodCurve l = true) (hn : l.length = n) (h : j < k) (hk : k < n) : (pt l j).1 < (pt l k).1 ∧ (pt l k).2 < (pt l j).2 := by
  have := pt_mono hg hn (k - j) j (by omega) (by omega)
  rwa [show j + (k - j) = k by omega] at this

/-- The segment of a head. -/
noncomputable def segH (l : List Pt) (q : Int) : Nat := by
  classical
  exact if h : ∃ k, Seg l.length (fun j => (pt l j).2 ≤ q) k then Classical.choose h else 0
theorem segH_is {l : List Pt} {q : Int} (h : ∃ k, Seg l.length (fun j => (pt l j).2 ≤ q) k) : Seg l.length (fun j => (pt l j).2 ≤ q) (segH l q) := by
  unfold segH
  rw [dif_pos h]
  exact Classical.choose_spec h
/-- What HeadAt, FlowAt return. -/
noncomputable def headR (l : List Pt) (q : Int) : Int × Int × Bool := if (goodCurve l && hasQ l l.length q) = true then (hN l l.length q, hD l l.length q, true) else (0, 0, false)
noncomputable def flowR (l : List Pt) (q : Int) : Int × Int × Bool := if (goodCurve l && hasH l l.length q) = true then (lowN (flN l (segH l q) q) (flD l (segH l q)), lowD (flN l (segH l q) q) (flD l (segH l q)), true) else (0, 0, false)

theorem i_HeadAt_is (a : Option Addr) (n c : Nat) (q : Int) (l : List Pt) (w : World) (h : PAt w a n l) (hn : n ≤ 1048576) (x y : Int) (z : Bool) (hR : headR l q = (x, y, z)) :
    Calls Try.prog 27 #[.slice a n c, .int .i64 q] w fun e w' => e = .returned (.tuple #[.int .i64 x, .int .i64 y, .bool z]) ∧ Below w.heap.size w w' := by
  have hl := h.1
  subst hl
  by_cases hc : (goodCurve l && hasQ l l.length q) = true
  · obtain ⟨h1, h2⟩ := (Bool.and_eq_true _ _).mp hc
    unfold headR at hR
    rw [if_pos hc] at hR
    simp only [Prod.mk.injEq] at hR
    obtain ⟨rfl, rfl, rfl⟩ := hR
    exact i_HeadAt_yes a _ c _ q l w h h1 h2 (segK_is (seg_flow h1 rfl h2))
  · have hc' : (goodCurve l && hasQ l l.length q) = false := by simpa using hc
    unfold headR at hR
    rw [if_neg hc] at hR
    simp only [Prod.mk.injEq] at hR
    obtain ⟨rfl, rfl, rfl⟩ := hR
    exact i_HeadAt_no a _ c q l w h hn hc'
theorem s_HeadAt_is (a : Option Addr) (n c : Nat) (q : Int) (l : List Pt) (w : World) (h : PAt w a n l) (hn : n ≤ 1048576) (x y : Int) (z : Bool) (hR : headR l q = (x, y, z)) :
    Calls Try.prog 26 #[.slice a n c, .int .i64 q] w fun e w' => e = .returned (.tuple #[.int .i64 x, .int .i64 y, .bool z]) ∧ Below w.heap.size w w' := by
  have hl := h.1
  subst hl
  by_cases hc : (goodCurve l && hasQ l l.length q) = true
  · obtain ⟨h1, h2⟩ := (Bool.and_eq_true _ _).mp hc
    unfold headR at hR
    rw [if_pos hc] at hR
    simp only [Prod.mk.injEq] at hR
    obtain ⟨rfl, rfl, rfl⟩ := hR
    exact s_HeadAt_yes a _ c _ q l w h h1 h2 (segK_is (seg_flow h1 rfl h2))
  · have hc' : (goodCurve l && hasQ l l.length q) = false := by simpa using hc
    unfold headR at hR
    rw [if_neg hc] at hR
    simp only [Prod.mk.injEq] at hR
    obtain ⟨rfl, rfl, rfl⟩ := hR
    exact s_HeadAt_no a _ c q l w h hn hc'
theorem i_FlowAt_is (a : Option Addr) (n c : Nat) (q : Int) (l : List Pt) (w : World) (h : PAt w a n l) (hn : n ≤ 1048576) (x y : Int) (z : Bool) (hR : flowR l q = (x, y, z)) :
    Calls Try.prog 25 #[.slice a n c, .int .i64 q] w fun e w' => e = .returned (.tuple #[.int .i64 x, .int .i64 y, .bool z]) ∧ Below w.heap.size w w' := by
  have hl := h.1
  subst hl
  by_cases hc : (goodCurve l && hasH l l.length q) = true
  · obtain ⟨h1, h2⟩ := (Bool.and_eq_true _ _).mp hc
    unfold flowR at hR
    rw [if_pos hc] at hR
    simp only [Prod.mk.injEq] at hR
    obtain ⟨rfl, rfl, rfl⟩ := hR
    exact i_FlowAt_yes a _ c _ q l w h h1 h2 (segH_is (seg_head h1 rfl h2))
  · have hc' : (goodCurve l && hasH l l.length q) = false := by simpa using hc
    unfold flowR at hR
    rw [if_neg hc] at hR
    simp only [Prod.mk.injEq] at hR
    obtain ⟨rfl, rfl, rfl⟩ := hR
    exact i_FlowAt_no a _ c q l w h hn hc'
theorem s_FlowAt_is (a : Option Addr) (n c : Nat) (q : Int) (l : List Pt) (w : World) (h : PAt w a n l) (hn : n ≤ 1048576) (x y : Int) (z : Bool) (hR : flowR l q = (x, y, z)) :
    Calls Try.prog 24 #[.slice a n c, .int .i64 q] w fun e w' => e = .returned (.tuple #[.int .i64 x, .int .i64 y, .bool z]) ∧ Below w.heap.size w w' := by
  have hl := h.1
  subst hl
  by_cases hc : (goodCurve l && hasH l l.length q) = true
  · obtain ⟨h1, h2⟩ := (Bool.and_eq_true _ _).mp hc
    unfold flowR at hR
    rw [if_pos hc] at hR
    simp only [Prod.mk.injEq] at hR
    obtain ⟨rfl, rfl, rfl⟩ := hR
    exact s_FlowAt_yes a _ c _ q l w h h1 h2 (segH_is (seg_head h1 rfl h2))
  · have hc' : (goodCurve l && hasH l l.length q) = false := by simpa using hc
    unfold flowR at hR
    rw [if_neg hc] at hR
    simp only [Prod.mk.injEq] at hR
    obtain ⟨rfl, rfl, rfl⟩ := hR
    exact s_FlowAt_no a _ c q l w h hn hc'

theorem head_seg {l : List Pt} {q : Int} {k : Nat} (hg : goodCurve l = true) (hk : Seg l.length (fun j => q ≤ (pt l j).1) k) (h0 : 0 ≤ q) : headR l q = (lowN (hdN l k q) (hdD l k), lowD (hdN l k q) (hdD l k), true) := by
  obtain ⟨k1, k2, k3, k4⟩ := hk
  have hq : hasQ l l.length q = true := by
    unfold hasQ
    refine inR_iff.2 ⟨h0, ?_⟩
    by_cases e : k = l.length - 1
    · rw [← e]; exact k4
    · have := (pt_lt hg rfl (j := k) (k := l.length - 1) (by omega) (by omega)).1
      omega
  unfold headR
  rw [if_pos (by rw [hg, hq]; rfl)]
  have e := seg_unique (segK_is (seg_flow hg rfl hq)) (⟨k1, k2, k3, k4⟩ : Seg l.length (fun j => q ≤ (pt l j).1) k)
  unfold hN hD
  rw [e]
/-- The head at the last flow. -/
theorem head_last {l : List Pt} (hg : goodCurve l = true) : headR l (pt l (l.length - 1)).1 = ((pt l (l.length - 1)).2, 1, true) := by
  have hl := good_len hg rfl
  have hp := pt_flow hg rfl (k := l.length - 1) (by omega)
  have hs : Seg l.length (fun j => (pt l (l.length - 1)).1 ≤ (pt l j).1) (l.length - 1) := ⟨by omega, by omega, fun j h1 h2 h3 => by have := (pt_lt hg rfl h2 (by omega)).1; omega, Int.le_refl _⟩
  rw [head_seg hg hs hp.1.1]
  have hst := (pt_lt hg rfl (j := l.length - 1 - 1) (k := l.length - 1) (by omega) (by omega)).1
  have e : hdN l (l.length - 1) (pt l (l.length - 1)).1 = (pt l (l.length - 1)).2 * hdD l (l.length - 1) := by unfold hdN hdD; grind
  have hD : 0 < hdD l (l.length - 1) := by unfold hdD; omega
  rw [e, (low_exact _ hD).1, (low_exact _ hD).2]
/-- The flow at the first head. -/
theorem flow_first {l : List Pt} (hg : goodCurve l = true) : flowR l (pt l 0).2 = (0, 1, true) := by
  have hl := good_len hg rfl
  have h01 := pt_lt hg rfl (j := 0) (k := 1) (by omega) (by omega)
  have hl0 : (pt l (l.length - 1)).2 ≤ (pt l 0).2 := by have := (pt_lt hg rfl (j := 0) (k := l.length - 1) (by omega) (by omega)).2; omega
  have hq : hasH l l.length (pt l 0).2 = true := inR_iff.2 ⟨hl0, Int.le_refl _⟩
  have hs : Seg l.length (fun j => (pt l j).2 ≤ (pt l 0).2) 1 := ⟨by omega, by omega, fun j h1 h2 => by omega, by show (pt l 1).2 ≤ _; omega⟩
  unfold flowR
  rw [if_pos (by rw [hg, hq]; rfl), seg_unique (segH_is ⟨1, hs⟩) hs]
  have hf := good_first hg
  have e : flN l 1 (pt l 0).2 = 0 * flD l 1 := by unfold flN; simp only [Nat.sub_self]; rw [hf]; simp
  have hD : 0 < flD l 1 := by unfold flD; simp only [Nat.sub_self]; omega
  rw [e, (low_exact _ hD).1, (low_exact _ hD).2]
/-- At a whole flow the head is that for which the flow was asked. -/
theorem flow_whole {l : List Pt} {q x : Int} (h : flowR l q = (x, 1, true)) : headR l x = (q, 1, true) := by
  unfold flowR at h
  split at h
  · rename_i h1
    obtain ⟨hg, hq⟩ := (Bool.and_eq_true _ _).mp h1
    obtain ⟨q1, q2⟩ := inR_iff.1 hq
    have hs := segH_is (seg_head hg rfl hq)
    generalize segH l q = k at h hs
    obtain ⟨k1, k2, k3, k4⟩ := hs
    simp only [Prod.mk.injEq, and_true] at h
    obtain ⟨hx, hd⟩ := h
    have h01 := pt_lt hg rfl (j := k - 1) (k := k) (by omega) (by omega)
    have hp := pt_flow hg rfl (k := k - 1) (by omega)
    have hD : 0 < flD l k := by unfold flD; omega
    have hN := low_one hD hd
    rw [hx] at hN
    have hprev : q ≤ (pt l (k - 1)).2 := by
      by_cases e : k = 1
      · subst e; exact q2
      · have := k3 (k - 1) (by omega) (by omega)
        omega
    unfold flN flD at hN
    -- x lies in the segment
    have hu : x ≤ (pt l k).1 := by
      apply Classical.byContradiction
      intro hc
      have h5 : ((pt l k).1 + 1) * ((pt l (k - 1)).2 - (pt l k).2) ≤ x * ((pt l (k - 1)).2 - (pt l k).2) := Int.mul_le_mul_of_nonneg_right (by omega) (by omega)
      have h6 : 0 ≤ ((pt l k).1 - (pt l (k - 1)).1) * (q - (pt l k).2) := Int.mul_nonneg (by omega) (by omega)
      grind
    have hlo : (pt l (k - 1)).1 ≤ x := by
      apply Classical.byContradiction
      intro hc
      have h5 : x * ((pt l (k - 1)).2 - (pt l k).2) ≤ ((pt l (k - 1)).1 - 1) * ((pt l (k - 1)).2 - (pt l k).2) := Int.mul_le_mul_of_nonneg_right (by omega) (by omega)
      have h6 : 0 ≤ ((pt l k).1 - (pt l (k - 1)).1) * ((pt l (k - 1)).2 - q) := Int.mul_nonneg (by omega) (by omega)
      grind
    have key : hdN l k x = q * hdD l k := by unfold hdN hdD; grind
    have hDD : 0 < hdD l k := by unfold hdD; omega
    by_cases hkk : k = 1 ∨ (pt l (k - 1)).1 < x
    · have hsx : Seg l.length (fun j => x ≤ (pt l j).1) k := by
        refine ⟨k1, k2, fun j j1 j2 j3 => ?_, hu⟩
        rcases hkk with e | e
        · omega
        · by_cases e2 : j = k - 1
          · subst e2; omega
          · have := (pt_lt hg rfl (j := j) (k := k - 1) (by omega) (by omega)).1; omega
      rw [head_seg hg hsx (by omega), key, (low_exact _ hDD).1, (low_exact _ hDD).2]
    · -- at the segment's beginning the head is that point's, which lies above
      exfalso
      have hx1 : x = (pt l (k - 1)).1 := by omega
      have hk1 := k3 (k - 1) (by omega) (by omega)
      have h5 : 0 < ((pt l k).1 - (pt l (k - 1)).1) * ((pt l (k - 1)).2 - q) := Int.mul_pos (by omega) (by omega)
      rw [hx1] at hN
      generalize (pt l k).1 = b1 at h5 hN
      generalize (pt l (k - 1)).1 = a1 at h5 hN
      generalize (pt l k).2 = b2 at h5 hN
      generalize (pt l (k - 1)).2 = a2 at h5 hN
      have e : (b1 - a1) * (a2 - q) = a1 * (q - b2) + b1 * (a2 - q) - a1 * (a2 - b2) := by grind
      rw [e, hN] at h5
      omega
  · cases h

end Go.Proofs.Ytpcbeapajlchgaa

/-
  Raised curves, a curve above itself (plain); equal curves (the laws' own helper).
-/
set_option linter.unusedVariables false
set_option linter.unusedSimpArgs false
namespace Go.Proofs.Ytpcbeapajlchgaa
open Go.RowKit

theorem pt_raised {l : List Pt} {h : Int} {k : Nat} (hk : k < l.length) : pt (raised l h) k = ((pt l k).1, (pt l k).2 + h) := by
  unfold pt raised
  simp [hk]
theorem pt_raised1 (l : List Pt) (h : Int) (k : Nat) : (pt (raised l h) k).1 = (pt l k).1 := by
  by_cases hk : k < l.length
  · rw [pt_raised hk]
  · unfold pt raised
    rw [List.getElem?_eq_none (by simpa using (by omega : l.length ≤ k)), List.getElem?_eq_none (by omega)]
theorem raised_back (l : List Pt) (h : Int) : raised (raised l h) (-h) = l := by
  unfold raised
  rw [List.map_map]
  conv => rhs; rw [← List.map_id l]
  refine List.map_congr_left (fun p _ => ?_)
  show (p.1, p.2 + h + -h) = p
  rw [show p.2 + h + -h = p.2 by omega]
theorem low_lt {a b D : Int} (hD : 0 < D) : lowN a D * lowD b D < lowN b D * lowD a D ↔ a < b := by
  have e1 := low_eq (a := a) hD
  have e2 := low_eq (a := b) hD
  have p1 := lowD_pos (a := a) hD
  have p2 := lowD_pos (a := b) hD
  have key : lowN a D * lowD b D * D = a * (lowD a D * lowD b D) ∧ lowN b D * lowD a D * D = b * (lowD a D * lowD b D) := by
    constructor
    · rw [Int.mul_right_comm, e1, Int.mul_assoc]
    · rw [Int.mul_right_comm, e2, Int.mul_assoc, Int.mul_comm (lowD b D)]
  have hp : 0 < lowD a D * lowD b D := Int.mul_pos p1 p2
  constructor
  · intro h
    have h2 := Int.mul_lt_mul_of_pos_right h hD
    rw [key.1, key.2] at h2
    exact Int.lt_of_mul_lt_mul_right h2 (Int.le_of_lt hp)
  · intro h
    have h2 := Int.mul_lt_mul_of_pos_right h hp
    rw [← key.1, ← key.2] at h2
    exact Int.lt_of_mul_lt_mul_right h2 (Int.le_of_lt hD)
theorem under_self (l : List Pt) (n : Nat) (q : Int) : under l n l n q = false := by
  unfold under
  simp
/-- A curve is above itself. -/
theorem above_self {l : List Pt} (hg : goodCurve l = true) : aboveR l l = (true, true) := by
  unfold aboveR
  rw [if_pos ⟨hg, hg⟩]
  simp [under_self]
theorem under_raised {l : List Pt} {h q : Int} (hg : goodCurve l = true) (hg' : goodCurve (raised l h) = true) : under (raised l h) (raised l h).length l l.length q = (hasQ l l.length q && decide (h < 0)) := by
  have hlen := raised_len l h
  rw [hlen]
  have hq : hasQ (raised l h) l.length q = hasQ l l.length q := by unfold hasQ; rw [pt_raised1]
  unfold under
  rw [hq]
  cases hc : hasQ l l.length q
  · rfl
  · have hs := segK_is (seg_flow hg rfl hc)
    have hs' := segK_is (seg_flow hg' hlen (hq.trans hc))
    have e : segK (raised l h) l.length q = segK l l.length q := by
      refine seg_unique ?_ hs
      have e3 : (fun j => q ≤ (pt (raised l h) j).1) = fun j => q ≤ (pt l j).1 := by
        funext j
        rw [pt_raised1]
      rw [e3] at hs'
      exact hs'
    obtain ⟨k1, k2, -, -⟩ := hs
    unfold hN hD
    rw [e]
    generalize segK l l.length q = k at k1 k2
    have hst := pt_lt hg rfl (j := k - 1) (k := k) (by omega) k2
    have hDe : hdD (raised l h) k = hdD l k := by unfold hdD; rw [pt_raised1, pt_raised1]
    have hNe : hdN (raised l h) k q = hdN l k q + h * hdD l k := by
      unfold hdN hdD
      rw [pt_raised k2, pt_raised (by omega : k - 1 < l.length)]
      simp only
      grind
    have hDp : 0 < hdD l k := by unfold hdD; omega
    rw [hDe, hNe]
    have h1 := low_lt (a := hdN l k q + h * hdD l k) (b := hdN l k q) hDp
    by_cases hh : h < 0
    · have h2 : h * hdD l k < 0 := Int.mul_neg_of_neg_of_pos hh hDp
      rw [decide_eq_true (h1.2 (by omega)), decide_eq_true hh]
      rfl
    · have h2 : 0 ≤ h * hdD l k := Int.mul_nonneg (by omega) (by omega)
      rw [decide_eq_false (fun h3 => by have := h1.1 h3; omega), decide_eq_false hh]
      rfl
/-- The answers on a raised curve. -/
theorem raise_yes {e f : List Pt} {up : Int} (h : raiseR e up = (f, true)) : f.length = e.length ∧ 2 ≤ e.length ∧ e.length ≤ 6 ∧ (-1000 ≤ up ∧ up ≤ 1000) ∧ aboveR f e = (decide (0 ≤ up), true) ∧ raiseR f (-up) = (e, true) := by
  unfold raiseR at h
  split at h
  · rename_i h1
    obtain ⟨hg, hu, hg'⟩ := h1
    simp only [Prod.mk.injEq, and_true] at h
    subst h
    have hu := inR_iff.1 hu
    have hl := good_len hg rfl
    refine ⟨raised_len e up, hl.1, hl.2, hu, ?_, ?_⟩
    · unfold aboveR
      rw [if_pos ⟨hg', hg⟩]
      have e1 : ((raised e up ++ e).any fun p => under (raised e up) (raised e up).length e e.length p.1) = decide (up < 0) := by
        by_cases hh : up < 0
        · rw [decide_eq_true hh]
          have hf := good_first hg
          have hq : hasQ e e.length (pt e 0).1 = true := by
            unfold hasQ
            rw [hf]
            exact inR_iff.2 ⟨Int.le_refl _, (pt_flow hg rfl (k := e.length - 1) (by omega)).1.1⟩
          rw [List.any_append]
          rw [any_at (l := e) (k := 0) (by omega) (by rw [under_raised hg hg', hq, decide_eq_true hh]; rfl)]
          simp
        · rw [decide_eq_false hh]
          rw [List.any_eq_false]
          intro p _
          rw [under_raised hg hg', decide_eq_false hh]
          simp
      rw [e1]
      congr 1
      by_cases hh : up < 0
      · simp [hh] <;> omega
      · simp [hh] <;> omega
    · unfold raiseR
      rw [raised_back, if_pos ⟨hg', inR_iff.2 (by omega), hg⟩]
  · cases h

end Go.Proofs.Ytpcbeapajlchgaa

/-
  Equal curves: the laws' own helper.
-/
set_option linter.unusedVariables false
set_option linter.unusedSimpArgs false
namespace Go.Proofs.Ytpcbeapajlchgaa
open Go.RowKit

set_option maxHeartbeats 2000000 in
theorem l_rCurves_same (a b : Option Addr) (n c d : Nat) (l : List Pt) (w : World) (h : PAt w a n l) (h' : PAt w b n l) (hn : n ≤ 1048576) :
    Calls Try.prog 45 #[.slice a n c, .slice b n d] w fun e w' => e = .returned (.bool true) ∧ Below w.heap.size w w' := by
  have H := hid h
  have H' := hid h'
  clear h h'
  go_enter Try.func45, Try.ntmps45
  go_wp2
  go_loopg [5] n (fun g i wr => ∃ k : Nat, k ≤ n ∧ g = n - k ∧ i = .int .i64 k ∧ Hid (Below w.heap.size w wr))
  case atStart => exact ⟨0, Nat.zero_le _, rfl, rfl, hid (Below.refl _ _)⟩
  case round =>
    obtain ⟨k, hk, rfl, rfl, hh⟩ := hrel
    by_cases hlt : k < n
    · have hlti : (k : Int) < (n : Int) := by omega
      have hki : (0 : Int) ≤ (k : Int) := by omega
      obtain ⟨b0, off0, rfl, hb0, x0, x1⟩ := PAt.get (H.out.below hh.out) k hlt
      obtain ⟨b1, off1, rfl, hb1, y0, y1⟩ := PAt.get (H'.out.below hh.out) k hlt
      have hwk : IntKind.i64.wrap ((k : Int) + 1) = ((k + 1 : Nat) : Int) := by rw [IntWalk.i64_in _ (by omega)]; omega
      go_upto_region 6 with fail
      go_quiet (fail)
      clear x0 x1 y0 y1
      go_wp2
      go_roundg (n - (k + 1))
      case rel => exact ⟨k + 1, by omega, rfl, rfl, hid (bstep hh.out (bdraws _))⟩
      case measure => omega
    · obtain rfl : n = k := by omega
      go_wp2
      go_ret
      exact ⟨rfl, hh.out⟩

end Go.Proofs.Ytpcbeapajlchgaa

/-
  What the laws on codes ask of their own helpers.
-/
set_option linter.unusedVariables false
set_option linter.unusedSimpArgs false
namespace Go.Proofs.Ytpcbeapajlchgaa
open Go.RowKit

theorem l_rBig (a : Option Addr) (n c : Nat) (w : World) : Calls Try.prog 41 #[.slice a n c] w fun e w' => e = .returned (.bool (decide (65536 < n))) ∧ w = w' := by
  go_enter Try.func41, Try.ntmps41
  go_wp2
  go_ret
  exact ⟨ret_bool (by simp <;> omega), rfl⟩

end Go.Proofs.Ytpcbeapajlchgaa

