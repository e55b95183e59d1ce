/-
  OpenedRing, in the program and in the reference.
-/
import Derived.Test.YthhogblnndmenaaLoopI
import Derived.Test.YthhogblnndmenaaLoopS
import Derived.Test.YthhogblnndmenaaRingF
import Derived.Test.YthhogblnndmenaaRemove
set_option linter.unusedVariables false
set_option linter.unusedSimpArgs false
namespace Go.Proofs.Ythhogblnndmenaa
open Go.RowKit

/-- What OpenedRing returns. -/
noncomputable def openR (N : Int) (l : List Pip) (id : Int) : Int × List Pip × Bool := if (goodNet N l && ringB N l) = true ∧ 0 ≤ findQ l id ∧ ¬ (loopS l)[(findQ l id).toNat]?.getD 0 = 0 then (N, l.eraseIdx (findQ l id).toNat, true) else (0, [], false)
theorem openR_no {N : Int} {l : List Pip} {id : Int} (h : (goodNet N l && ringB N l) = false ∨ findQ l id = -1 ∨ (loopS l)[(findQ l id).toNat]?.getD 0 = 0) : openR N l id = (0, [], false) := by
  unfold openR
  rw [if_neg]
  rintro ⟨h1, h2, h3⟩
  rcases h with h | h | h
  · rw [h1] at h; cases h
  · omega
  · exact h3 h
theorem openR_len {N : Int} {l : List Pip} {id x : Int} {R : List Pip} {b : Bool} (h : openR N l id = (x, R, b)) : R.length ≤ 1000 := by
  unfold openR at h
  split at h
  · rename_i h1
    cases h
    have := (goodNet_get ((Bool.and_eq_true _ _).mp h1.1).1).2.1
    have h2 := List.length_eraseIdx_le l (findQ l id).toNat
    omega
  · cases h; simp

set_option maxRecDepth 100000 in
set_option maxHeartbeats 8000000 in
theorem i_OpenedRing (N id : Int) (a : Option Addr) (n c : Nat) (l : List Pip) (w : World) (h : QAt w a n l) (hn : n ≤ 1048576) (x : Int) (R : List Pip) (b : Bool) (hR : openR N l id = (x, R, b)) :
    Calls Try.prog 31 #[.agg #[.int .i64 N, .slice a n c], .int .i64 id] w fun e w' => ∃ a' m c', e = .returned (.tuple #[.agg #[.int .i64 x, .slice a' m c'], .bool b]) ∧ OwnQ w' w.heap.size (.slice a' m c') R ∧ Below w.heap.size w w' := by
  have hl := h.1
  have H := hid h
  clear h
  cases h12 : (goodNet N l && ringB N l)
  · rw [openR_no (.inl h12)] at hR
    cases hR
    obtain ⟨M, rfl⟩ : ∃ M : Int, M = N := ⟨_, rfl⟩
    have HF := hid h12
    clear h12 hl
    go_enter Try.func31, Try.ntmps31
    go_upto_region 1 with fail
    have BA0 : Below w.heap.size w ((w.alloc (.cells #[.int .i64 M, .slice a (n) (c)] 31)).alloc (.cells #[.int .i64 0, .slice none 0 0] 31)) := by go_grown
    have ZA0 : ((w.alloc (.cells #[.int .i64 M, .slice a (n) (c)] 31)).alloc (.cells #[.int .i64 0, .slice none 0 0] 31)).heap.size = w.heap.size + 2 := by simp
    have TB0 : ((w.alloc (.cells #[.int .i64 M, .slice a (n) (c)] 31)).alloc (.cells #[.int .i64 0, .slice none 0 0] 31)).heap[w.heap.size + 1]? = some (.cells #[.int .i64 0, .slice none 0 0] 31 (0, 0)) := last_new _ _ _ (by simp)
    have TA0 : ((w.alloc (.cells #[.int .i64 M, .slice a (n) (c)] 31)).alloc (.cells #[.int .i64 0, .slice none 0 0] 31)).heap[w.heap.size]? = some (.cells #[.int .i64 M, .slice a (n) (c)] 31 (0, 0)) := mid_new _ _ _ _ rfl
    generalize (w.alloc (.cells #[.int .i64 M, .slice a (n) (c)] 31)).alloc (.cells #[.int .i64 0, .slice none 0 0] 31) = wA at *
    have BA := hid BA0
    have ZA := hid ZA0
    have TA := hid TA0
    have TB := hid TB0
    have KA := hid (show ∀ wx, Below wA.heap.size wA wx → (wx.cell? ⟨w.heap.size, 0, none⟩ = some (.int .i64 M) ∧ wx.cell? ⟨w.heap.size, 1, none⟩ = some (.slice a (n) (c))) from fun wx hb => ⟨by rw [hb.cell (p := ⟨w.heap.size, 0, none⟩) (by show w.heap.size < _; omega), cell_of_row wA _ _ _ _ (0, 0) TA0]; rfl, by rw [hb.cell (p := ⟨w.heap.size, 1, none⟩) (by show w.heap.size < _; omega), cell_of_row wA _ _ _ _ (0, 0) TA0]; rfl⟩)
    have n0 : wA.cell? ⟨w.heap.size, 0, none⟩ = some (.int .i64 M) := by rw [cell_of_row wA _ _ _ _ (0, 0) TA0]; rfl
    have n1 : wA.cell? ⟨w.heap.size, 1, none⟩ = some (.slice a (n) (c)) := by rw [cell_of_row wA _ _ _ _ (0, 0) TA0]; rfl
    have hzA : w.heap.size < wA.heap.size := by omega
    clear BA0 ZA0 TA0 TB0
    have KX : Hid (∀ wy w5 : World, (Below wA.heap.size wA wy ∧ wy.cell? ⟨w.heap.size, 0, none⟩ = some (.int .i64 M) ∧ wy.cell? ⟨w.heap.size, 1, none⟩ = some (.slice a n c)) → Below wy.heap.size wy w5 → (Below wA.heap.size wA w5 ∧ w5.cell? ⟨w.heap.size, 0, none⟩ = some (.int .i64 M) ∧ w5.cell? ⟨w.heap.size, 1, none⟩ = some (.slice a n c))) := hid (fun wy w5 hq hb => ⟨bstep hq.1 hb, (hb.cell (World.block_lt_of_cell? wy _ hq.2.1)).trans hq.2.1, (hb.cell (World.block_lt_of_cell? wy _ hq.2.2)).trans hq.2.2⟩)
    have X := hid (show Below wA.heap.size wA wA.drew ∧ wA.drew.cell? ⟨w.heap.size, 0, none⟩ = some (.int .i64 M) ∧ wA.drew.cell? ⟨w.heap.size, 1, none⟩ = some (.slice a n c) from ⟨(Below.refl _ _).drew, n0, n1⟩)
    refine wp_region_calm (C := (fun w' => Below wA.heap.size wA w' ∧ w'.cell? ⟨w.heap.size, 0, none⟩ = some (.int .i64 M) ∧ w'.cell? ⟨w.heap.size, 1, none⟩ = some (.slice a n c))) (by kernel_rfl) (by kernel_rfl) (X.out) ?_
    repeat
      first
        | go_big_quiet_skip
        | (go_big_quiet_want
           first
             | (unfold Oper.quiet
                apply Exists.intro
                refine ⟨fun wq hq => ?_, ?_⟩
                · (try dsimp only at hq
                   simp [go_sem, Oper.quietAt, Oper.quietUpon, BigFrame.eval_const, BigFrame.eval_global, BigFrame.eval_func, ↓IntWalk.iteOmega, *]
                   first | done | rfl | (first | (refine calm_call hq KX.out (i_hasRing M _ _ _ l _ (H.out.below (bstep BA.out hq.1)) hn) (by rw [HF.out]))))
                simp only [Act.put, List.setIfInBounds_toArray, List.set_cons_succ, List.set_cons_zero]
                go_big_quiet_on))
    refine wpQuiet_nil ?_
    intro wc hcalm
    try dsimp only at hcalm
    have TC := hid ((hcalm.1.block (w.heap.size + 1) (by have := ZA.out; omega)).trans TB.out)
    have HB := hid (bstep BA.out hcalm.1)
    clear hcalm X KX n0 n1
    have y0 := cell_of_row wc _ 0 _ _ (0, 0) TC.out
    have y1 := cell_of_row wc _ 1 _ _ (0, 0) TC.out
    simp only [List.getElem?_toArray, List.getElem?_cons_zero, List.getElem?_cons_succ] at y0 y1
    have f0 := frozen_of_row wc _ 0 _ _ TC.out
    have f1 := frozen_of_row wc _ 1 _ _ TC.out
    have e7 := heap_setCell_same _ _ 1 _ _ (.slice none 0 0) (heap_setCell_same _ _ 0 _ _ (.int .i64 0) TC.out)
    have u0 := cell_of_row _ _ 0 _ _ (0, 0) e7
    have u1 := cell_of_row _ _ 1 _ _ (0, 0) e7
    simp only [List.setIfInBounds_toArray, List.set_cons_zero, List.set_cons_succ, List.getElem?_toArray, List.getElem?_cons_zero, List.getElem?_cons_succ] at u0 u1
    clear e7
    go_wp2
    refine bodyPost_ret (v := .tuple #[.agg #[.int .i64 0, .slice none 0 0], .bool false]) (by simp [results, Try.results31, go_sem, *]) rfl ⟨_, _, _, rfl, OwnS.nil _ _, ?_⟩
    exact (HB.out.setCell (by show w.heap.size ≤ w.heap.size + 1; omega) _).setCell (by show w.heap.size ≤ w.heap.size + 1; omega) _
  · obtain ⟨h1, h2⟩ := (Bool.and_eq_true _ _).mp h12
    have hN := (goodNet_get h1).1
    obtain ⟨M, rfl⟩ : ∃ M : Nat, N = M := ⟨N.toNat, by omega⟩
    have HF := hid h12
    have HG := hid h1
    have HR := hid h2
    rcases findQ_cases l id with hf | ⟨k, hk, hf⟩
    · rw [openR_no (.inr (.inl hf))] at hR
      cases hR
      have HK := hid hf
      clear h1 h2 h12 hl hN hf
      go_enter Try.func31, Try.ntmps31
      go_upto_region 1 with fail
      have BA0 : Below w.heap.size w ((w.alloc (.cells #[.int .i64 M, .slice a (n) (c)] 31)).alloc (.cells #[.int .i64 0, .slice none 0 0] 31)) := by go_grown
      have ZA0 : ((w.alloc (.cells #[.int .i64 M, .slice a (n) (c)] 31)).alloc (.cells #[.int .i64 0, .slice none 0 0] 31)).heap.size = w.heap.size + 2 := by simp
      have TB0 : ((w.alloc (.cells #[.int .i64 M, .slice a (n) (c)] 31)).alloc (.cells #[.int .i64 0, .slice none 0 0] 31)).heap[w.heap.size + 1]? = some (.cells #[.int .i64 0, .slice none 0 0] 31 (0, 0)) := last_new _ _ _ (by simp)
      have TA0 : ((w.alloc (.cells #[.int .i64 M, .slice a (n) (c)] 31)).alloc (.cells #[.int .i64 0, .slice none 0 0] 31)).heap[w.heap.size]? = some (.cells #[.int .i64 M, .slice a (n) (c)] 31 (0, 0)) := mid_new _ _ _ _ rfl
      generalize (w.alloc (.cells #[.int .i64 M, .slice a (n) (c)] 31)).alloc (.cells #[.int .i64 0, .slice none 0 0] 31) = wA at *
      have BA := hid BA0
      have ZA := hid ZA0
      have TA := hid TA0
      have TB := hid TB0
      have KA := hid (show ∀ wx, Below wA.heap.size wA wx → (wx.cell? ⟨w.heap.size, 0, none⟩ = some (.int .i64 M) ∧ wx.cell? ⟨w.heap.size, 1, none⟩ = some (.slice a (n) (c))) from fun wx hb => ⟨by rw [hb.cell (p := ⟨w.heap.size, 0, none⟩) (by show w.heap.size < _; omega), cell_of_row wA _ _ _ _ (0, 0) TA0]; rfl, by rw [hb.cell (p := ⟨w.heap.size, 1, none⟩) (by show w.heap.size < _; omega), cell_of_row wA _ _ _ _ (0, 0) TA0]; rfl⟩)
      have n0 : wA.cell? ⟨w.heap.size, 0, none⟩ = some (.int .i64 M) := by rw [cell_of_row wA _ _ _ _ (0, 0) TA0]; rfl
      have n1 : wA.cell? ⟨w.heap.size, 1, none⟩ = some (.slice a (n) (c)) := by rw [cell_of_row wA _ _ _ _ (0, 0) TA0]; rfl
      have hzA : w.heap.size < wA.heap.size := by omega
      clear BA0 ZA0 TA0 TB0
      have KX : Hid (∀ wy w5 : World, (Below wA.heap.size wA wy ∧ wy.cell? ⟨w.heap.size, 0, none⟩ = some (.int .i64 M) ∧ wy.cell? ⟨w.heap.size, 1, none⟩ = some (.slice a n c)) → Below wy.heap.size wy w5 → (Below wA.heap.size wA w5 ∧ w5.cell? ⟨w.heap.size, 0, none⟩ = some (.int .i64 M) ∧ w5.cell? ⟨w.heap.size, 1, none⟩ = some (.slice a n c))) := hid (fun wy w5 hq hb => ⟨bstep hq.1 hb, (hb.cell (World.block_lt_of_cell? wy _ hq.2.1)).trans hq.2.1, (hb.cell (World.block_lt_of_cell? wy _ hq.2.2)).trans hq.2.2⟩)
      have X := hid (show Below wA.heap.size wA wA.drew ∧ wA.drew.cell? ⟨w.heap.size, 0, none⟩ = some (.int .i64 M) ∧ wA.drew.cell? ⟨w.heap.size, 1, none⟩ = some (.slice a n c) from ⟨(Below.refl _ _).drew, n0, n1⟩)
      refine wp_region_calm (C := (fun w' => Below wA.heap.size wA w' ∧ w'.cell? ⟨w.heap.size, 0, none⟩ = some (.int .i64 M) ∧ w'.cell? ⟨w.heap.size, 1, none⟩ = some (.slice a n c))) (by kernel_rfl) (by kernel_rfl) (X.out) ?_
      repeat
        first
          | go_big_quiet_skip
          | (go_big_quiet_want
             first
               | (unfold Oper.quiet
                  apply Exists.intro
                  refine ⟨fun wq hq => ?_, ?_⟩
                  · (try dsimp only at hq
                     simp [go_sem, Oper.quietAt, Oper.quietUpon, BigFrame.eval_const, BigFrame.eval_global, BigFrame.eval_func, ↓IntWalk.iteOmega, *]
                     first | done | rfl | (first | (refine calm_call hq KX.out (i_hasRing M _ _ _ l _ (H.out.below (bstep BA.out hq.1)) hn) (by rw [HF.out])) | (refine calm_call hq KX.out (i_pipeIndex M id _ _ _ l _ (H.out.below (bstep BA.out hq.1)) hn) (by rw [HK.out]))))
                  simp only [Act.put, List.setIfInBounds_toArray, List.set_cons_succ, List.set_cons_zero]
                  go_big_quiet_on))
      refine wpQuiet_nil ?_
      intro wc hcalm
      try dsimp only at hcalm
      have TC := hid ((hcalm.1.block (w.heap.size + 1) (by have := ZA.out; omega)).trans TB.out)
      have HB := hid (bstep BA.out hcalm.1)
      clear hcalm X KX n0 n1
      have y0 := cell_of_row wc _ 0 _ _ (0, 0) TC.out
      have y1 := cell_of_row wc _ 1 _ _ (0, 0) TC.out
      simp only [List.getElem?_toArray, List.getElem?_cons_zero, List.getElem?_cons_succ] at y0 y1
      have f0 := frozen_of_row wc _ 0 _ _ TC.out
      have f1 := frozen_of_row wc _ 1 _ _ TC.out
      have e7 := heap_setCell_same _ _ 1 _ _ (.slice none 0 0) (heap_setCell_same _ _ 0 _ _ (.int .i64 0) TC.out)
      have u0 := cell_of_row _ _ 0 _ _ (0, 0) e7
      have u1 := cell_of_row _ _ 1 _ _ (0, 0) e7
      simp only [List.setIfInBounds_toArray, List.set_cons_zero, List.set_cons_succ, List.getElem?_toArray, List.getElem?_cons_zero, List.getElem?_cons_succ] at u0 u1
      clear e7
      go_wp2
      refine bodyPost_ret (v := .tuple #[.agg #[.int .i64 0, .slice none 0 0], .bool false]) (by simp [results, Try.results31, go_sem, *]) rfl ⟨_, _, _, rfl, OwnS.nil _ _, ?_⟩
      exact (HB.out.setCell (by show w.heap.size ≤ w.heap.size + 1; omega) _).setCell (by show w.heap.size ≤ w.heap.size + 1; omega) _
    · have hkn : k < n := by omega
      have HK := hid hf
      have hLK := loopS_len l
      obtain ⟨sg, hsg⟩ : ∃ sg, (loopS l)[k]?.getD 0 = sg := ⟨_, rfl⟩
      have HSG := hid hsg
      have k0 : (0 : Int) ≤ (k : Int) := by omega
      have k1 : (k : Int) < (n : Int) := by omega
      by_cases hs : sg = 0
      · rw [openR_no (.inr (.inr (by rw [hf]; show (loopS l)[k]?.getD 0 = 0; rw [hsg, hs])))] at hR
        cases hR
        subst hs
        clear h1 h2 h12 hl hN hf hsg
        go_enter Try.func31, Try.ntmps31
        go_upto_region 1 with fail
        have BA0 : Below w.heap.size w ((w.alloc (.cells #[.int .i64 M, .slice a (n) (c)] 31)).alloc (.cells #[.int .i64 0, .slice none 0 0] 31)) := by go_grown
        have ZA0 : ((w.alloc (.cells #[.int .i64 M, .slice a (n) (c)] 31)).alloc (.cells #[.int .i64 0, .slice none 0 0] 31)).heap.size = w.heap.size + 2 := by simp
        have TB0 : ((w.alloc (.cells #[.int .i64 M, .slice a (n) (c)] 31)).alloc (.cells #[.int .i64 0, .slice none 0 0] 31)).heap[w.heap.size + 1]? = some (.cells #[.int .i64 0, .slice none 0 0] 31 (0, 0)) := last_new _ _ _ (by simp)
        have TA0 : ((w.alloc (.cells #[.int .i64 M, .slice a (n) (c)] 31)).alloc (.cells #[.int .i64 0, .slice none 0 0] 31)).heap[w.heap.size]? = some (.cells #[.int .i64 M, .slice a (n) (c)] 31 (0, 0)) := mid_new _ _ _ _ rfl
        generalize (w.alloc (.cells #[.int .i64 M, .slice a (n) (c)] 31)).alloc (.cells #[.int .i64 0, .slice none 0 0] 31) = wA at *
        have BA := hid BA0
        have ZA := hid ZA0
        have TA := hid TA0
        have TB := hid TB0
        have KA := hid (show ∀ wx, Below wA.heap.size wA wx → (wx.cell? ⟨w.heap.size, 0, none⟩ = some (.int .i64 M) ∧ wx.cell? ⟨w.heap.size, 1, none⟩ = some (.slice a (n) (c))) from fun wx hb => ⟨by rw [hb.cell (p := ⟨w.heap.size, 0, none⟩) (by show w.heap.size < _; omega), cell_of_row wA _ _ _ _ (0, 0) TA0]; rfl, by rw [hb.cell (p := ⟨w.heap.size, 1, none⟩) (by show w.heap.size < _; omega), cell_of_row wA _ _ _ _ (0, 0) TA0]; rfl⟩)
        have n0 : wA.cell? ⟨w.heap.size, 0, none⟩ = some (.int .i64 M) := by rw [cell_of_row wA _ _ _ _ (0, 0) TA0]; rfl
        have n1 : wA.cell? ⟨w.heap.size, 1, none⟩ = some (.slice a (n) (c)) := by rw [cell_of_row wA _ _ _ _ (0, 0) TA0]; rfl
        have hzA : w.heap.size < wA.heap.size := by omega
        clear BA0 ZA0 TA0 TB0
        go_cut [24] (fun s wx => s = .bool true ∧ Hid (Below wA.heap.size wA wx))
        case first =>
          first
            | (go_region_with (first
                | (go_at_call 67; refine (i_hasRing M _ _ _ l _ (H.out.below (bstep BA.out (by go_grown))) hn).mono ?_; rintro e w5 ⟨rfl, hb5⟩; rw [HF.out]; have hbA : Below wA.heap.size wA w5 := (bstep ((Below.refl _ _).drew : Below wA.heap.size wA wA.drew) hb5); obtain ⟨z0, z1⟩ := KA.out _ hbA)
                | (go_at_call 68; refine (i_loopOf M _ _ _ l _ (H.out.below (bstep BA.out hbB)) HG.out HR.out).mono ?_; rintro e w7 ⟨a7, c7, rfl, ho7, hb7⟩; obtain ⟨g7, rfl, -, -⟩ := own_some ho7 (by omega); have hbC : Below wA.heap.size wA w7 := bstep hbB hb7; obtain ⟨p0, p1⟩ := KA.out _ hbC; have HO7 := hid ho7)
                | (go_at_call 61; refine (i_pipeIndex M id _ _ _ l _ (H.out.below (bstep BA.out hbC)) hn).mono ?_; rintro e w8 ⟨rfl, hb8⟩; rw [HK.out]; have hbD : Below wA.heap.size wA w8 := bstep hbC hb8; obtain ⟨r0, r1⟩ := KA.out _ hbD; have c8 := (HO7.out.below hb8).cell (k := k) hkn; rw [HSG.out] at c8)
                | (go_at_call 61; refine (i_pipeIndex M id _ _ _ l _ (H.out.below (bstep BA.out hbA)) hn).mono ?_; rintro e w6 ⟨rfl, hb6⟩; rw [HK.out]; have hbB : Below wA.heap.size wA w6 := bstep hbA hb6; obtain ⟨q0, q1⟩ := KA.out _ hbB)))
            | fail
          all_goals (go_wp2_with fail; go_meet)
          all_goals exact ⟨rfl, hid hbD⟩
        case rest =>
          obtain ⟨rfl, hx⟩ := hcut
          have TC := hid ((hx.out.block (w.heap.size + 1) (by have := ZA.out; omega)).trans TB.out)
          have HB := hid (bstep BA.out hx.out)
          clear n0 n1
          have y0 := cell_of_row wc _ 0 _ _ (0, 0) TC.out
          have y1 := cell_of_row wc _ 1 _ _ (0, 0) TC.out
          simp only [List.getElem?_toArray, List.getElem?_cons_zero, List.getElem?_cons_succ] at y0 y1
          have f0 := frozen_of_row wc _ 0 _ _ TC.out
          have f1 := frozen_of_row wc _ 1 _ _ TC.out
          have e7 := heap_setCell_same _ _ 1 _ _ (.slice none 0 0) (heap_setCell_same _ _ 0 _ _ (.int .i64 0) TC.out)
          have u0 := cell_of_row _ _ 0 _ _ (0, 0) e7
          have u1 := cell_of_row _ _ 1 _ _ (0, 0) e7
          simp only [List.setIfInBounds_toArray, List.set_cons_zero, List.set_cons_succ, List.getElem?_toArray, List.getElem?_cons_zero, List.getElem?_cons_succ] at u0 u1
          clear e7
          go_wp2
          refine bodyPost_ret (v := .tuple #[.agg #[.int .i64 0, .slice none 0 0], .bool false]) (by simp [results, Try.results31, go_sem, *]) rfl ⟨_, _, _, rfl, OwnS.nil _ _, ?_⟩
          exact (HB.out.setCell (by show w.heap.size ≤ w.heap.size + 1; omega) _).setCell (by show w.heap.size ≤ w.heap.size + 1; omega) _
      · have e0 : openR M l id = ((M : Int), l.eraseIdx k, true) := by
          unfold openR
          rw [if_pos ⟨h12, by omega, by rw [hf]; show ¬ (loopS l)[k]?.getD 0 = 0; rw [hsg]; exact hs⟩, hf]
          rfl
        rw [e0] at hR
        cases hR
        have hs2 : (sg == 0) = false := by simpa using hs
        clear h1 h2 h12 hl hN hf hsg e0
        go_enter Try.func31, Try.ntmps31
        go_upto_region 1 with fail
        have BA0 : Below w.heap.size w ((w.alloc (.cells #[.int .i64 M, .slice a (n) (c)] 31)).alloc (.cells #[.int .i64 0, .slice none 0 0] 31)) := by go_grown
        have ZA0 : ((w.alloc (.cells #[.int .i64 M, .slice a (n) (c)] 31)).alloc (.cells #[.int .i64 0, .slice none 0 0] 31)).heap.size = w.heap.size + 2 := by simp
        have TB0 : ((w.alloc (.cells #[.int .i64 M, .slice a (n) (c)] 31)).alloc (.cells #[.int .i64 0, .slice none 0 0] 31)).heap[w.heap.size + 1]? = some (.cells #[.int .i64 0, .slice none 0 0] 31 (0, 0)) := last_new _ _ _ (by simp)
        have TA0 : ((w.alloc (.cells #[.int .i64 M, .slice a (n) (c)] 31)).alloc (.cells #[.int .i64 0, .slice none 0 0] 31)).heap[w.heap.size]? = some (.cells #[.int .i64 M, .slice a (n) (c)] 31 (0, 0)) := mid_new _ _ _ _ rfl
        generalize (w.alloc (.cells #[.int .i64 M, .slice a (n) (c)] 31)).alloc (.cells #[.int .i64 0, .slice none 0 0] 31) = wA at *
        have BA := hid BA0
        have ZA := hid ZA0
        have TA := hid TA0
        have TB := hid TB0
        have KA := hid (show ∀ wx, Below wA.heap.size wA wx → (wx.cell? ⟨w.heap.size, 0, none⟩ = some (.int .i64 M) ∧ wx.cell? ⟨w.heap.size, 1, none⟩ = some (.slice a (n) (c))) from fun wx hb => ⟨by rw [hb.cell (p := ⟨w.heap.size, 0, none⟩) (by show w.heap.size < _; omega), cell_of_row wA _ _ _ _ (0, 0) TA0]; rfl, by rw [hb.cell (p := ⟨w.heap.size, 1, none⟩) (by show w.heap.size < _; omega), cell_of_row wA _ _ _ _ (0, 0) TA0]; rfl⟩)
        have n0 : wA.cell? ⟨w.heap.size, 0, none⟩ = some (.int .i64 M) := by rw [cell_of_row wA _ _ _ _ (0, 0) TA0]; rfl
        have n1 : wA.cell? ⟨w.heap.size, 1, none⟩ = some (.slice a (n) (c)) := by rw [cell_of_row wA _ _ _ _ (0, 0) TA0]; rfl
        have hzA : w.heap.size < wA.heap.size := by omega
        clear BA0 ZA0 TA0 TB0
        go_cut [24] (fun s wx => s = .bool false ∧ Hid (Below wA.heap.size wA wx))
        case first =>
          first
            | (go_region_with (first
                | (go_at_call 67; refine (i_hasRing M _ _ _ l _ (H.out.below (bstep BA.out (by go_grown))) hn).mono ?_; rintro e w5 ⟨rfl, hb5⟩; rw [HF.out]; have hbA : Below wA.heap.size wA w5 := (bstep ((Below.refl _ _).drew : Below wA.heap.size wA wA.drew) hb5); obtain ⟨z0, z1⟩ := KA.out _ hbA)
                | (go_at_call 68; refine (i_loopOf M _ _ _ l _ (H.out.below (bstep BA.out hbB)) HG.out HR.out).mono ?_; rintro e w7 ⟨a7, c7, rfl, ho7, hb7⟩; obtain ⟨g7, rfl, -, -⟩ := own_some ho7 (by omega); have hbC : Below wA.heap.size wA w7 := bstep hbB hb7; obtain ⟨p0, p1⟩ := KA.out _ hbC; have HO7 := hid ho7)
                | (go_at_call 61; refine (i_pipeIndex M id _ _ _ l _ (H.out.below (bstep BA.out hbC)) hn).mono ?_; rintro e w8 ⟨rfl, hb8⟩; rw [HK.out]; have hbD : Below wA.heap.size wA w8 := bstep hbC hb8; obtain ⟨r0, r1⟩ := KA.out _ hbD; have c8 := (HO7.out.below hb8).cell (k := k) hkn; rw [HSG.out] at c8)
                | (go_at_call 61; refine (i_pipeIndex M id _ _ _ l _ (H.out.below (bstep BA.out hbA)) hn).mono ?_; rintro e w6 ⟨rfl, hb6⟩; rw [HK.out]; have hbB : Below wA.heap.size wA w6 := bstep hbA hb6; obtain ⟨q0, q1⟩ := KA.out _ hbB)))
            | fail
          all_goals (go_wp2_with fail; go_meet)
          all_goals exact ⟨rfl, hid hbD⟩
        case rest =>
          obtain ⟨rfl, hx⟩ := hcut
          have HB := hid (bstep BA.out hx.out)
          clear n0 n1
          obtain ⟨n0, n1⟩ := KA.out _ hx.out
          have hzc : w.heap.size < wc.heap.size := World.block_lt_of_cell? wc _ n0
          have hzc2 : w.heap.size + 1 < wc.heap.size := by have := hx.out.size; have := ZA.out; omega
          go_wp2_with fail
          refine (i_RemovePipe M k id _ _ _ l _ (H.out.below HB.out) HG.out HK.out hkn).mono ?_
          rintro e w4 ⟨a4, c4, rfl, ho4, hb4⟩
          have TC := hid (((hb4.block (w.heap.size + 1) hzc2).trans (hx.out.block (w.heap.size + 1) (by have := ZA.out; omega))).trans TB.out)
          have HB4 := hid (bstep HB.out hb4)
          have HO4 := hid ho4
          clear ho4 hb4 hx n0 n1
          obtain ⟨m4, hm4⟩ : ∃ m4, n - 1 = m4 := ⟨_, rfl⟩
          rw [hm4] at HO4 ⊢
          clear hm4
          have y0 := cell_of_row w4 _ 0 _ _ (0, 0) TC.out
          have y1 := cell_of_row w4 _ 1 _ _ (0, 0) TC.out
          simp only [List.getElem?_toArray, List.getElem?_cons_zero, List.getElem?_cons_succ] at y0 y1
          have f0 := frozen_of_row w4 _ 0 _ _ TC.out
          have f1 := frozen_of_row w4 _ 1 _ _ TC.out
          have e7 := heap_setCell_same _ _ 1 _ _ (.slice a4 m4 c4) (heap_setCell_same _ _ 0 _ _ (.int .i64 M) TC.out)
          have u0 := cell_of_row _ _ 0 _ _ (0, 0) e7
          have u1 := cell_of_row _ _ 1 _ _ (0, 0) e7
          simp only [List.setIfInBounds_toArray, List.set_cons_zero, List.set_cons_succ, List.getElem?_toArray, List.getElem?_cons_zero, List.getElem?_cons_succ] at u0 u1
          clear e7
          go_wp2
          refine bodyPost_ret (v := .tuple #[.agg #[.int .i64 M, .slice a4 m4 c4], .bool true]) (by simp [results, Try.results31, go_sem, *]) rfl ⟨_, _, _, rfl, ((HO4.out.far (by show w.heap.size + 1 < _; omega)).far (by show w.heap.size + 1 < _; omega)).mono (by omega), ?_⟩
          exact (HB4.out.setCell (by show w.heap.size ≤ w.heap.size + 1; omega) _).setCell (by show w.heap.size ≤ w.heap.size + 1; omega) _

set_option maxRecDepth 100000 in
set_option maxHeartbeats 8000000 in
theorem s_OpenedRing (N id : Int) (a : Option Addr) (n c : Nat) (l : List Pip) (w : World) (h : QAt w a n l) (hn : n ≤ 1048576) (hc : n ≤ c) (x : Int) (R : List Pip) (b : Bool) (hR : openR N l id = (x, R, b)) :
    Calls Try.prog 30 #[.agg #[.int .i64 N, .slice a n c], .int .i64 id] w fun e w' => ∃ a' m c', e = .returned (.tuple #[.agg #[.int .i64 x, .slice a' m c'], .bool b]) ∧ OwnQ w' w.heap.size (.slice a' m c') R ∧ Below w.heap.size w w' := by
  have hl := h.1
  have H := hid h
  clear h
  cases h1 : goodNet N l
  · rw [openR_no (.inl (by rw [h1]; rfl))] at hR
    cases hR
    obtain ⟨M, rfl⟩ : ∃ M : Int, M = N := ⟨_, rfl⟩
    have HG := hid h1
    clear h1 hl
    go_enter Try.func30, Try.ntmps30
    go_upto_region 1 with fail
    have BA0 : Below w.heap.size w ((w.alloc (.cells #[.int .i64 M, .slice a (n) (c)] 31)).alloc (.cells #[.int .i64 0, .slice none 0 0] 31)) := by go_grown
    have ZA0 : ((w.alloc (.cells #[.int .i64 M, .slice a (n) (c)] 31)).alloc (.cells #[.int .i64 0, .slice none 0 0] 31)).heap.size = w.heap.size + 2 := by simp
    have TB0 : ((w.alloc (.cells #[.int .i64 M, .slice a (n) (c)] 31)).alloc (.cells #[.int .i64 0, .slice none 0 0] 31)).heap[w.heap.size + 1]? = some (.cells #[.int .i64 0, .slice none 0 0] 31 (0, 0)) := last_new _ _ _ (by simp)
    have TA0 : ((w.alloc (.cells #[.int .i64 M, .slice a (n) (c)] 31)).alloc (.cells #[.int .i64 0, .slice none 0 0] 31)).heap[w.heap.size]? = some (.cells #[.int .i64 M, .slice a (n) (c)] 31 (0, 0)) := mid_new _ _ _ _ rfl
    generalize (w.alloc (.cells #[.int .i64 M, .slice a (n) (c)] 31)).alloc (.cells #[.int .i64 0, .slice none 0 0] 31) = wA at *
    have BA := hid BA0
    have ZA := hid ZA0
    have TA := hid TA0
    have TB := hid TB0
    have KA := hid (show ∀ wx, Below wA.heap.size wA wx → (wx.cell? ⟨w.heap.size, 0, none⟩ = some (.int .i64 M) ∧ wx.cell? ⟨w.heap.size, 1, none⟩ = some (.slice a (n) (c))) from fun wx hb => ⟨by rw [hb.cell (p := ⟨w.heap.size, 0, none⟩) (by show w.heap.size < _; omega), cell_of_row wA _ _ _ _ (0, 0) TA0]; rfl, by rw [hb.cell (p := ⟨w.heap.size, 1, none⟩) (by show w.heap.size < _; omega), cell_of_row wA _ _ _ _ (0, 0) TA0]; rfl⟩)
    have n0 : wA.cell? ⟨w.heap.size, 0, none⟩ = some (.int .i64 M) := by rw [cell_of_row wA _ _ _ _ (0, 0) TA0]; rfl
    have n1 : wA.cell? ⟨w.heap.size, 1, none⟩ = some (.slice a (n) (c)) := by rw [cell_of_row wA _ _ _ _ (0, 0) TA0]; rfl
    have hzA : w.heap.size < wA.heap.size := by omega
    clear BA0 ZA0 TA0 TB0
    go_wp2_with fail
    refine (s_l2Find M id _ _ _ l _ (H.out.below BA.out) hn).mono ?_
    rintro e w1 ⟨rfl, hb⟩
    have HB1 := hid (hb)
    clear n0 n1 hb
    obtain ⟨n0, n1⟩ := KA.out _ HB1.out
    have hz_w1 : w.heap.size < w1.heap.size := World.block_lt_of_cell? w1 _ n0
    go_wp2_with fail
    refine (s_l2Good M _ _ _ l _ (H.out.below (bstep BA.out HB1.out)) hn).mono ?_
    rintro e w2 ⟨rfl, hb⟩
    have HB2 := hid (bstep HB1.out hb)
    clear n0 n1 hb
    obtain ⟨n0, n1⟩ := KA.out _ HB2.out
    have hz_w2 : w.heap.size < w2.heap.size := World.block_lt_of_cell? w2 _ n0
    rw [HG.out]
    have TC := hid ((HB2.out.block (w.heap.size + 1) (by have := ZA.out; omega)).trans TB.out)
    have HBZ := hid (bstep BA.out HB2.out)
    clear n0 n1
    have y0 := cell_of_row w2 _ 0 _ _ (0, 0) TC.out
    have y1 := cell_of_row w2 _ 1 _ _ (0, 0) TC.out
    simp only [List.getElem?_toArray, List.getElem?_cons_zero, List.getElem?_cons_succ] at y0 y1
    have f0 := frozen_of_row w2 _ 0 _ _ TC.out
    have f1 := frozen_of_row w2 _ 1 _ _ TC.out
    have e7 := heap_setCell_same _ _ 1 _ _ (.slice none 0 0) (heap_setCell_same _ _ 0 _ _ (.int .i64 0) TC.out)
    have u0 := cell_of_row _ _ 0 _ _ (0, 0) e7
    have u1 := cell_of_row _ _ 1 _ _ (0, 0) e7
    simp only [List.setIfInBounds_toArray, List.set_cons_zero, List.set_cons_succ, List.getElem?_toArray, List.getElem?_cons_zero, List.getElem?_cons_succ] at u0 u1
    clear e7
    go_wp2
    refine bodyPost_ret (v := .tuple #[.agg #[.int .i64 0, .slice none 0 0], .bool false]) (by simp [results, Try.results30, go_sem, *]) rfl ⟨_, _, _, rfl, OwnS.nil _ _, ?_⟩
    exact (HBZ.out.setCell (by show w.heap.size ≤ w.heap.size + 1; omega) _).setCell (by show w.heap.size ≤ w.heap.size + 1; omega) _
  · have hN := (goodNet_get h1).1
    obtain ⟨M, rfl⟩ : ∃ M : Nat, N = M := ⟨N.toNat, by omega⟩
    have HG := hid h1
    cases h2 : ringB M l
    · rw [openR_no (.inl (by rw [h1, h2]; rfl))] at hR
      cases hR
      have HR := hid h2
      clear h1 h2 hl hN
      go_enter Try.func30, Try.ntmps30
      go_upto_region 1 with fail
      have BA0 : Below w.heap.size w ((w.alloc (.cells #[.int .i64 M, .slice a (n) (c)] 31)).alloc (.cells #[.int .i64 0, .slice none 0 0] 31)) := by go_grown
      have ZA0 : ((w.alloc (.cells #[.int .i64 M, .slice a (n) (c)] 31)).alloc (.cells #[.int .i64 0, .slice none 0 0] 31)).heap.size = w.heap.size + 2 := by simp
      have TB0 : ((w.alloc (.cells #[.int .i64 M, .slice a (n) (c)] 31)).alloc (.cells #[.int .i64 0, .slice none 0 0] 31)).heap[w.heap.size + 1]? = some (.cells #[.int .i64 0, .slice none 0 0] 31 (0, 0)) := last_new _ _ _ (by simp)
      have TA0 : ((w.alloc (.cells #[.int .i64 M, .slice a (n) (c)] 31)).alloc (.cells #[.int .i64 0, .slice none 0 0] 31)).heap[w.heap.size]? = some (.cells #[.int .i64 M, .slice a (n) (c)] 31 (0, 0)) := mid_new _ _ _ _ rfl
      generalize (w.alloc (.cells #[.int .i64 M, .slice a (n) (c)] 31)).alloc (.cells #[.int .i64 0, .slice none 0 0] 31) = wA at *
      have BA := hid BA0
      have ZA := hid ZA0
      have TA := hid TA0
      have TB := hid TB0
      have KA := hid (show ∀ wx, Below wA.heap.size wA wx → (wx.cell? ⟨w.heap.size, 0, none⟩ = some (.int .i64 M) ∧ wx.cell? ⟨w.heap.size, 1, none⟩ = some (.slice a (n) (c))) from fun wx hb => ⟨by rw [hb.cell (p := ⟨w.heap.size, 0, none⟩) (by show w.heap.size < _; omega), cell_of_row wA _ _ _ _ (0, 0) TA0]; rfl, by rw [hb.cell (p := ⟨w.heap.size, 1, none⟩) (by show w.heap.size < _; omega), cell_of_row wA _ _ _ _ (0, 0) TA0]; rfl⟩)
      have n0 : wA.cell? ⟨w.heap.size, 0, none⟩ = some (.int .i64 M) := by rw [cell_of_row wA _ _ _ _ (0, 0) TA0]; rfl
      have n1 : wA.cell? ⟨w.heap.size, 1, none⟩ = some (.slice a (n) (c)) := by rw [cell_of_row wA _ _ _ _ (0, 0) TA0]; rfl
      have hzA : w.heap.size < wA.heap.size := by omega
      clear BA0 ZA0 TA0 TB0
      go_wp2_with fail
      refine (s_l2Find M id _ _ _ l _ (H.out.below BA.out) hn).mono ?_
      rintro e w1 ⟨rfl, hb⟩
      have HB1 := hid (hb)
      clear n0 n1 hb
      obtain ⟨n0, n1⟩ := KA.out _ HB1.out
      have hz_w1 : w.heap.size < w1.heap.size := World.block_lt_of_cell? w1 _ n0
      go_wp2_with fail
      refine (s_l2Good M _ _ _ l _ (H.out.below (bstep BA.out HB1.out)) hn).mono ?_
      rintro e w2 ⟨rfl, hb⟩
      have HB2 := hid (bstep HB1.out hb)
      clear n0 n1 hb
      obtain ⟨n0, n1⟩ := KA.out _ HB2.out
      have hz_w2 : w.heap.size < w2.heap.size := World.block_lt_of_cell? w2 _ n0
      rw [HG.out]
      go_wp2_with fail
      refine (s_l10Ring M _ _ _ l _ (H.out.below (bstep BA.out HB2.out)) HG.out).mono ?_
      rintro e w3 ⟨rfl, hb⟩
      have HB3 := hid (bstep HB2.out hb)
      clear n0 n1 hb
      obtain ⟨n0, n1⟩ := KA.out _ HB3.out
      have hz_w3 : w.heap.size < w3.heap.size := World.block_lt_of_cell? w3 _ n0
      rw [HR.out]
      have TC := hid ((HB3.out.block (w.heap.size + 1) (by have := ZA.out; omega)).trans TB.out)
      have HBZ := hid (bstep BA.out HB3.out)
      clear n0 n1
      have y0 := cell_of_row w3 _ 0 _ _ (0, 0) TC.out
      have y1 := cell_of_row w3 _ 1 _ _ (0, 0) TC.out
      simp only [List.getElem?_toArray, List.getElem?_cons_zero, List.getElem?_cons_succ] at y0 y1
      have f0 := frozen_of_row w3 _ 0 _ _ TC.out
      have f1 := frozen_of_row w3 _ 1 _ _ TC.out
      have e7 := heap_setCell_same _ _ 1 _ _ (.slice none 0 0) (heap_setCell_same _ _ 0 _ _ (.int .i64 0) TC.out)
      have u0 := cell_of_row _ _ 0 _ _ (0, 0) e7
      have u1 := cell_of_row _ _ 1 _ _ (0, 0) e7
      simp only [List.setIfInBounds_toArray, List.set_cons_zero, List.set_cons_succ, List.getElem?_toArray, List.getElem?_cons_zero, List.getElem?_cons_succ] at u0 u1
      clear e7
      go_wp2
      refine bodyPost_ret (v := .tuple #[.agg #[.int .i64 0, .slice none 0 0], .bool false]) (by simp [results, Try.results30, go_sem, *]) rfl ⟨_, _, _, rfl, OwnS.nil _ _, ?_⟩
      exact (HBZ.out.setCell (by show w.heap.size ≤ w.heap.size + 1; omega) _).setCell (by show w.heap.size ≤ w.heap.size + 1; omega) _
    · have HR := hid h2
      rcases findQ_cases l id with hf | ⟨k, hk, hf⟩
      · rw [openR_no (.inr (.inl hf))] at hR
        cases hR
        have HK := hid hf
        clear h1 h2 hl hN hf
        go_enter Try.func30, Try.ntmps30
        go_upto_region 1 with fail
        have BA0 : Below w.heap.size w ((w.alloc (.cells #[.int .i64 M, .slice a (n) (c)] 31)).alloc (.cells #[.int .i64 0, .slice none 0 0] 31)) := by go_grown
        have ZA0 : ((w.alloc (.cells #[.int .i64 M, .slice a (n) (c)] 31)).alloc (.cells #[.int .i64 0, .slice none 0 0] 31)).heap.size = w.heap.size + 2 := by simp
        have TB0 : ((w.alloc (.cells #[.int .i64 M, .slice a (n) (c)] 31)).alloc (.cells #[.int .i64 0, .slice none 0 0] 31)).heap[w.heap.size + 1]? = some (.cells #[.int .i64 0, .slice none 0 0] 31 (0, 0)) := last_new _ _ _ (by simp)
        have TA0 : ((w.alloc (.cells #[.int .i64 M, .slice a (n) (c)] 31)).alloc (.cells #[.int .i64 0, .slice none 0 0] 31)).heap[w.heap.size]? = some (.cells #[.int .i64 M, .slice a (n) (c)] 31 (0, 0)) := mid_new _ _ _ _ rfl
        generalize (w.alloc (.cells #[.int .i64 M, .slice a (n) (c)] 31)).alloc (.cells #[.int .i64 0, .slice none 0 0] 31) = wA at *
        have BA := hid BA0
        have ZA := hid ZA0
        have TA := hid TA0
        have TB := hid TB0
        have KA := hid (show ∀ wx, Below wA.heap.size wA wx → (wx.cell? ⟨w.heap.size, 0, none⟩ = some (.int .i64 M) ∧ wx.cell? ⟨w.heap.size, 1, none⟩ = some (.slice a (n) (c))) from fun wx hb => ⟨by rw [hb.cell (p := ⟨w.heap.size, 0, none⟩) (by show w.heap.size < _; omega), cell_of_row wA _ _ _ _ (0, 0) TA0]; rfl, by rw [hb.cell (p := ⟨w.heap.size, 1, none⟩) (by show w.heap.size < _; omega), cell_of_row wA _ _ _ _ (0, 0) TA0]; rfl⟩)
        have n0 : wA.cell? ⟨w.heap.size, 0, none⟩ = some (.int .i64 M) := by rw [cell_of_row wA _ _ _ _ (0, 0) TA0]; rfl
        have n1 : wA.cell? ⟨w.heap.size, 1, none⟩ = some (.slice a (n) (c)) := by rw [cell_of_row wA _ _ _ _ (0, 0) TA0]; rfl
        have hzA : w.heap.size < wA.heap.size := by omega
        clear BA0 ZA0 TA0 TB0
        go_wp2_with fail
        refine (s_l2Find M id _ _ _ l _ (H.out.below BA.out) hn).mono ?_
        rintro e w1 ⟨rfl, hb⟩
        have HB1 := hid (hb)
        clear n0 n1 hb
        obtain ⟨n0, n1⟩ := KA.out _ HB1.out
        have hz_w1 : w.heap.size < w1.heap.size := World.block_lt_of_cell? w1 _ n0
        rw [HK.out]
        go_wp2_with fail
        refine (s_l2Good M _ _ _ l _ (H.out.below (bstep BA.out HB1.out)) hn).mono ?_
        rintro e w2 ⟨rfl, hb⟩
        have HB2 := hid (bstep HB1.out hb)
        clear n0 n1 hb
        obtain ⟨n0, n1⟩ := KA.out _ HB2.out
        have hz_w2 : w.heap.size < w2.heap.size := World.block_lt_of_cell? w2 _ n0
        rw [HG.out]
        go_wp2_with fail
        refine (s_l10Ring M _ _ _ l _ (H.out.below (bstep BA.out HB2.out)) HG.out).mono ?_
        rintro e w3 ⟨rfl, hb⟩
        have HB3 := hid (bstep HB2.out hb)
        clear n0 n1 hb
        obtain ⟨n0, n1⟩ := KA.out _ HB3.out
        have hz_w3 : w.heap.size < w3.heap.size := World.block_lt_of_cell? w3 _ n0
        rw [HR.out]
        have TC := hid ((HB3.out.block (w.heap.size + 1) (by have := ZA.out; omega)).trans TB.out)
        have HBZ := hid (bstep BA.out HB3.out)
        clear n0 n1
        have y0 := cell_of_row w3 _ 0 _ _ (0, 0) TC.out
        have y1 := cell_of_row w3 _ 1 _ _ (0, 0) TC.out
        simp only [List.getElem?_toArray, List.getElem?_cons_zero, List.getElem?_cons_succ] at y0 y1
        have f0 := frozen_of_row w3 _ 0 _ _ TC.out
        have f1 := frozen_of_row w3 _ 1 _ _ TC.out
        have e7 := heap_setCell_same _ _ 1 _ _ (.slice none 0 0) (heap_setCell_same _ _ 0 _ _ (.int .i64 0) TC.out)
        have u0 := cell_of_row _ _ 0 _ _ (0, 0) e7
        have u1 := cell_of_row _ _ 1 _ _ (0, 0) e7
        simp only [List.setIfInBounds_toArray, List.set_cons_zero, List.set_cons_succ, List.getElem?_toArray, List.getElem?_cons_zero, List.getElem?_cons_succ] at u0 u1
        clear e7
        go_wp2
        refine bodyPost_ret (v := .tuple #[.agg #[.int .i64 0, .slice none 0 0], .bool false]) (by simp [results, Try.results30, go_sem, *]) rfl ⟨_, _, _, rfl, OwnS.nil _ _, ?_⟩
        exact (HBZ.out.setCell (by show w.heap.size ≤ w.heap.size + 1; omega) _).setCell (by show w.heap.size ≤ w.heap.size + 1; omega) _
      · have hkn : k < n := by omega
        have hn10 : n ≤ 10 := by have := (goodNet_get h1).2.1; omega
        have HK := hid hf
        obtain ⟨sg, hsg⟩ : ∃ sg, (loopS l)[k]?.getD 0 = sg := ⟨_, rfl⟩
        have HSG := hid hsg
        have k0 : (0 : Int) ≤ (k : Int) := by omega
        have k1 : (k : Int) < (n : Int) := by omega
        by_cases hs : sg = 0
        · rw [openR_no (.inr (.inr (by rw [hf]; show (loopS l)[k]?.getD 0 = 0; rw [hsg, hs])))] at hR
          cases hR
          subst hs
          clear h1 h2 hl hN hf hsg
          go_enter Try.func30, Try.ntmps30
          go_upto_region 1 with fail
          have BA0 : Below w.heap.size w ((w.alloc (.cells #[.int .i64 M, .slice a (n) (c)] 31)).alloc (.cells #[.int .i64 0, .slice none 0 0] 31)) := by go_grown
          have ZA0 : ((w.alloc (.cells #[.int .i64 M, .slice a (n) (c)] 31)).alloc (.cells #[.int .i64 0, .slice none 0 0] 31)).heap.size = w.heap.size + 2 := by simp
          have TB0 : ((w.alloc (.cells #[.int .i64 M, .slice a (n) (c)] 31)).alloc (.cells #[.int .i64 0, .slice none 0 0] 31)).heap[w.heap.size + 1]? = some (.cells #[.int .i64 0, .slice none 0 0] 31 (0, 0)) := last_new _ _ _ (by simp)
          have TA0 : ((w.alloc (.cells #[.int .i64 M, .slice a (n) (c)] 31)).alloc (.cells #[.int .i64 0, .slice none 0 0] 31)).heap[w.heap.size]? = some (.cells #[.int .i64 M, .slice a (n) (c)] 31 (0, 0)) := mid_new _ _ _ _ rfl
          generalize (w.alloc (.cells #[.int .i64 M, .slice a (n) (c)] 31)).alloc (.cells #[.int .i64 0, .slice none 0 0] 31) = wA at *
          have BA := hid BA0
          have ZA := hid ZA0
          have TA := hid TA0
          have TB := hid TB0
          have KA := hid (show ∀ wx, Below wA.heap.size wA wx → (wx.cell? ⟨w.heap.size, 0, none⟩ = some (.int .i64 M) ∧ wx.cell? ⟨w.heap.size, 1, none⟩ = some (.slice a (n) (c))) from fun wx hb => ⟨by rw [hb.cell (p := ⟨w.heap.size, 0, none⟩) (by show w.heap.size < _; omega), cell_of_row wA _ _ _ _ (0, 0) TA0]; rfl, by rw [hb.cell (p := ⟨w.heap.size, 1, none⟩) (by show w.heap.size < _; omega), cell_of_row wA _ _ _ _ (0, 0) TA0]; rfl⟩)
          have n0 : wA.cell? ⟨w.heap.size, 0, none⟩ = some (.int .i64 M) := by rw [cell_of_row wA _ _ _ _ (0, 0) TA0]; rfl
          have n1 : wA.cell? ⟨w.heap.size, 1, none⟩ = some (.slice a (n) (c)) := by rw [cell_of_row wA _ _ _ _ (0, 0) TA0]; rfl
          have hzA : w.heap.size < wA.heap.size := by omega
          clear BA0 ZA0 TA0 TB0
          go_wp2_with fail
          refine (s_l2Find M id _ _ _ l _ (H.out.below BA.out) hn).mono ?_
          rintro e w1 ⟨rfl, hb⟩
          have HB1 := hid (hb)
          clear n0 n1 hb
          obtain ⟨n0, n1⟩ := KA.out _ HB1.out
          have hz_w1 : w.heap.size < w1.heap.size := World.block_lt_of_cell? w1 _ n0
          rw [HK.out]
          go_wp2_with fail
          refine (s_l2Good M _ _ _ l _ (H.out.below (bstep BA.out HB1.out)) hn).mono ?_
          rintro e w2 ⟨rfl, hb⟩
          have HB2 := hid (bstep HB1.out hb)
          clear n0 n1 hb
          obtain ⟨n0, n1⟩ := KA.out _ HB2.out
          have hz_w2 : w.heap.size < w2.heap.size := World.block_lt_of_cell? w2 _ n0
          rw [HG.out]
          go_wp2_with fail
          refine (s_l10Ring M _ _ _ l _ (H.out.below (bstep BA.out HB2.out)) HG.out).mono ?_
          rintro e w3 ⟨rfl, hb⟩
          have HB3 := hid (bstep HB2.out hb)
          clear n0 n1 hb
          obtain ⟨n0, n1⟩ := KA.out _ HB3.out
          have hz_w3 : w.heap.size < w3.heap.size := World.block_lt_of_cell? w3 _ n0
          rw [HR.out]
          go_wp2_with fail
          refine (s_l10Loop M _ _ _ l _ (H.out.below (bstep BA.out HB3.out)) HG.out HR.out hc).mono ?_
          rintro e w4 ⟨a7, c7, rfl, ho7, hb⟩
          obtain ⟨g7, rfl, -, hg7⟩ := own_some ho7 (by omega)
          have c8 := ho7.cell (k := k) hkn
          rw [HSG.out] at c8
          have HB4 := hid (bstep HB3.out hb)
          clear n0 n1 hb ho7
          obtain ⟨n0, n1⟩ := KA.out _ HB4.out
          have hz_w4 : w.heap.size < w4.heap.size := World.block_lt_of_cell? w4 _ n0
          have TC := hid ((HB4.out.block (w.heap.size + 1) (by have := ZA.out; omega)).trans TB.out)
          have HBZ := hid (bstep BA.out HB4.out)
          clear n0 n1
          have y0 := cell_of_row w4 _ 0 _ _ (0, 0) TC.out
          have y1 := cell_of_row w4 _ 1 _ _ (0, 0) TC.out
          simp only [List.getElem?_toArray, List.getElem?_cons_zero, List.getElem?_cons_succ] at y0 y1
          have f0 := frozen_of_row w4 _ 0 _ _ TC.out
          have f1 := frozen_of_row w4 _ 1 _ _ TC.out
          have e7 := heap_setCell_same _ _ 1 _ _ (.slice none 0 0) (heap_setCell_same _ _ 0 _ _ (.int .i64 0) TC.out)
          have u0 := cell_of_row _ _ 0 _ _ (0, 0) e7
          have u1 := cell_of_row _ _ 1 _ _ (0, 0) e7
          simp only [List.setIfInBounds_toArray, List.set_cons_zero, List.set_cons_succ, List.getElem?_toArray, List.getElem?_cons_zero, List.getElem?_cons_succ] at u0 u1
          clear e7
          go_wp2
          refine bodyPost_ret (v := .tuple #[.agg #[.int .i64 0, .slice none 0 0], .bool false]) (by simp [results, Try.results30, go_sem, *]) rfl ⟨_, _, _, rfl, OwnS.nil _ _, ?_⟩
          exact (HBZ.out.setCell (by show w.heap.size ≤ w.heap.size + 1; omega) _).setCell (by show w.heap.size ≤ w.heap.size + 1; omega) _
        · have e0 : openR M l id = ((M : Int), l.eraseIdx k, true) := by
            unfold openR
            rw [if_pos ⟨by rw [h1, h2]; rfl, by omega, by rw [hf]; show ¬ (loopS l)[k]?.getD 0 = 0; rw [hsg]; exact hs⟩, hf]
            rfl
          rw [e0] at hR
          cases hR
          have hs2 : (sg == 0) = false := by simpa using hs
          clear h1 h2 hl hN hf hsg e0
          go_enter Try.func30, Try.ntmps30
          go_upto_region 1 with fail
          have BA0 : Below w.heap.size w ((w.alloc (.cells #[.int .i64 M, .slice a (n) (c)] 31)).alloc (.cells #[.int .i64 0, .slice none 0 0] 31)) := by go_grown
          have ZA0 : ((w.alloc (.cells #[.int .i64 M, .slice a (n) (c)] 31)).alloc (.cells #[.int .i64 0, .slice none 0 0] 31)).heap.size = w.heap.size + 2 := by simp
          have TB0 : ((w.alloc (.cells #[.int .i64 M, .slice a (n) (c)] 31)).alloc (.cells #[.int .i64 0, .slice none 0 0] 31)).heap[w.heap.size + 1]? = some (.cells #[.int .i64 0, .slice none 0 0] 31 (0, 0)) := last_new _ _ _ (by simp)
          have TA0 : ((w.alloc (.cells #[.int .i64 M, .slice a (n) (c)] 31)).alloc (.cells #[.int .i64 0, .slice none 0 0] 31)).heap[w.heap.size]? = some (.cells #[.int .i64 M, .slice a (n) (c)] 31 (0, 0)) := mid_new _ _ _ _ rfl
          generalize (w.alloc (.cells #[.int .i64 M, .slice a (n) (c)] 31)).alloc (.cells #[.int .i64 0, .slice none 0 0] 31) = wA at *
          have BA := hid BA0
          have ZA := hid ZA0
          have TA := hid TA0
          have TB := hid TB0
          have KA := hid (show ∀ wx, Below wA.heap.size wA wx → (wx.cell? ⟨w.heap.size, 0, none⟩ = some (.int .i64 M) ∧ wx.cell? ⟨w.heap.size, 1, none⟩ = some (.slice a (n) (c))) from fun wx hb => ⟨by rw [hb.cell (p := ⟨w.heap.size, 0, none⟩) (by show w.heap.size < _; omega), cell_of_row wA _ _ _ _ (0, 0) TA0]; rfl, by rw [hb.cell (p := ⟨w.heap.size, 1, none⟩) (by show w.heap.size < _; omega), cell_of_row wA _ _ _ _ (0, 0) TA0]; rfl⟩)
          have n0 : wA.cell? ⟨w.heap.size, 0, none⟩ = some (.int .i64 M) := by rw [cell_of_row wA _ _ _ _ (0, 0) TA0]; rfl
          have n1 : wA.cell? ⟨w.heap.size, 1, none⟩ = some (.slice a (n) (c)) := by rw [cell_of_row wA _ _ _ _ (0, 0) TA0]; rfl
          have hzA : w.heap.size < wA.heap.size := by omega
          clear BA0 ZA0 TA0 TB0
          go_wp2_with fail
          refine (s_l2Find M id _ _ _ l _ (H.out.below BA.out) hn).mono ?_
          rintro e w1 ⟨rfl, hb⟩
          have HB1 := hid (hb)
          clear n0 n1 hb
          obtain ⟨n0, n1⟩ := KA.out _ HB1.out
          have hz_w1 : w.heap.size < w1.heap.size := World.block_lt_of_cell? w1 _ n0
          rw [HK.out]
          go_wp2_with fail
          refine (s_l2Good M _ _ _ l _ (H.out.below (bstep BA.out HB1.out)) hn).mono ?_
          rintro e w2 ⟨rfl, hb⟩
          have HB2 := hid (bstep HB1.out hb)
          clear n0 n1 hb
          obtain ⟨n0, n1⟩ := KA.out _ HB2.out
          have hz_w2 : w.heap.size < w2.heap.size := World.block_lt_of_cell? w2 _ n0
          rw [HG.out]
          go_wp2_with fail
          refine (s_l10Ring M _ _ _ l _ (H.out.below (bstep BA.out HB2.out)) HG.out).mono ?_
          rintro e w3 ⟨rfl, hb⟩
          have HB3 := hid (bstep HB2.out hb)
          clear n0 n1 hb
          obtain ⟨n0, n1⟩ := KA.out _ HB3.out
          have hz_w3 : w.heap.size < w3.heap.size := World.block_lt_of_cell? w3 _ n0
          rw [HR.out]
          go_wp2_with fail
          refine (s_l10Loop M _ _ _ l _ (H.out.below (bstep BA.out HB3.out)) HG.out HR.out hc).mono ?_
          rintro e w4 ⟨a7, c7, rfl, ho7, hb⟩
          obtain ⟨g7, rfl, -, hg7⟩ := own_some ho7 (by omega)
          have c8 := ho7.cell (k := k) hkn
          rw [HSG.out] at c8
          have HB4 := hid (bstep HB3.out hb)
          clear n0 n1 hb ho7
          obtain ⟨n0, n1⟩ := KA.out _ HB4.out
          have hz_w4 : w.heap.size < w4.heap.size := World.block_lt_of_cell? w4 _ n0
          go_wp2_with fail
          refine (s_l2Without M k _ _ _ l _ (H.out.below (bstep BA.out HB4.out)) (by omega) hc hkn).mono ?_
          rintro e w6 ⟨a4, c4, rfl, ho4, hb4⟩
          have hzc2 : w.heap.size + 1 < w4.heap.size := by have := HB4.out.size; have := ZA.out; omega
          have TC := hid (((hb4.block (w.heap.size + 1) hzc2).trans (HB4.out.block (w.heap.size + 1) (by have := ZA.out; omega))).trans TB.out)
          have HB6 := hid (bstep BA.out (bstep HB4.out hb4))
          have HO4 := hid ho4
          clear ho4 hb4 n0 n1
          obtain ⟨m4, hm4⟩ : ∃ m4, n - 1 = m4 := ⟨_, rfl⟩
          rw [hm4] at HO4 ⊢
          clear hm4
          have y0 := cell_of_row w6 _ 0 _ _ (0, 0) TC.out
          have y1 := cell_of_row w6 _ 1 _ _ (0, 0) TC.out
          simp only [List.getElem?_toArray, List.getElem?_cons_zero, List.getElem?_cons_succ] at y0 y1
          have f0 := frozen_of_row w6 _ 0 _ _ TC.out
          have f1 := frozen_of_row w6 _ 1 _ _ TC.out
          have e7 := heap_setCell_same _ _ 1 _ _ (.slice a4 m4 c4) (heap_setCell_same _ _ 0 _ _ (.int .i64 M) TC.out)
          have u0 := cell_of_row _ _ 0 _ _ (0, 0) e7
          have u1 := cell_of_row _ _ 1 _ _ (0, 0) e7
          simp only [List.setIfInBounds_toArray, List.set_cons_zero, List.set_cons_succ, List.getElem?_toArray, List.getElem?_cons_zero, List.getElem?_cons_succ] at u0 u1
          clear e7
          go_wp2
          refine bodyPost_ret (v := .tuple #[.agg #[.int .i64 M, .slice a4 m4 c4], .bool true]) (by simp [results, Try.results30, go_sem, *]) rfl ⟨_, _, _, rfl, ((HO4.out.far (by show w.heap.size + 1 < _; omega)).far (by show w.heap.size + 1 < _; omega)).mono (by omega), ?_⟩
          exact (HB6.out.setCell (by show w.heap.size ≤ w.heap.size + 1; omega) _).setCell (by show w.heap.size ≤ w.heap.size + 1; omega) _

theorem i_OpenedRing' (N id : Int) (a : Option Addr) (n c : Nat) (l : List Pip) (w : World) (h : QAt w a n l) (hn : n ≤ 1048576) (x : Int) (R : List Pip) (b : Bool) (hR : openR N l id = (x, R, b)) :
    Calls Try.prog 31 #[.agg #[.int .i64 N, .slice a n c], .int .i64 id] w fun e w' => ∃ a' c', e = .returned (.tuple #[.agg #[.int .i64 x, .slice a' R.length c'], .bool b]) ∧ OwnQ w' w.heap.size (.slice a' R.length c') R ∧ Below w.heap.size w w' :=
  (i_OpenedRing N id a n c l w h hn x R b hR).mono fun _ _ ⟨a', m, c', he, ho, hb⟩ => by
    have := OwnS.len ho
    subst this
    exact ⟨a', c', he, ho, hb⟩

theorem s_OpenedRing' (N id : Int) (a : Option Addr) (n c : Nat) (l : List Pip) (w : World) (h : QAt w a n l) (hn : n ≤ 1048576) (hc : n ≤ c) (x : Int) (R : List Pip) (b : Bool) (hR : openR N l id = (x, R, b)) :
    Calls Try.prog 30 #[.agg #[.int .i64 N, .slice a n c], .int .i64 id] w fun e w' => ∃ a' c', e = .returned (.tuple #[.agg #[.int .i64 x, .slice a' R.length c'], .bool b]) ∧ OwnQ w' w.heap.size (.slice a' R.length c') R ∧ Below w.heap.size w w' :=
  (s_OpenedRing N id a n c l w h hn hc x R b hR).mono fun _ _ ⟨a', m, c', he, ho, hb⟩ => by
    have := OwnS.len ho
    subst this
    exact ⟨a', c', he, ho, hb⟩

end Go.Proofs.Ythhogblnndmenaa
