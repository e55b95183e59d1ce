/-
  Texts of this claim, joined: Remove, Opened, RingIds.
-/
import Derived.Test.YtikjighlnpdgiaaRr3
import Derived.Test.YtikjighlnpdgiaaRr11
import Derived.Test.YtikjighlnpdgiaaRr14
import Derived.Test.YtikjighlnpdgiaaRr15
import Derived.Test.YtikjighlnpdgiaaRr17
/-
  RemovePipe, where the pipe is there.
-/
set_option linter.unusedVariables false
set_option linter.unusedSimpArgs false
namespace Go.Proofs.Ytikjighlnpdgiaa
open Go.RowKit

theorem ownQ_some {w : World} {B n c : Nat} {a : Option Addr} {l : List Pip} (h : OwnQ w B (.slice a n c) l) (hn : 0 < n) : ∃ g, a = some ⟨g, 0, none⟩ ∧ B ≤ g ∧ g < w.heap.size := by
  have hlt := OwnS.lt h
  have hl := OwnS.len h
  rcases h.2 with ⟨h1, h0⟩ | ⟨g, cap, cur, h1, hB, hg, hnc, hm, hs, ht⟩
  · simp only [Value.slice.injEq] at h1
    omega
  · simp only [Value.slice.injEq] at h1
    obtain ⟨rfl, -, -⟩ := h1
    exact ⟨g, rfl, hB, (hlt g rfl).2⟩

theorem i_hasPipeR (N x : Int) (a : Option Addr) (n c : Nat) (l : List Pip) (w : World) (h : QAt w a n l) (hn : n ≤ 1048576) :
    Calls Try.prog 100 #[.agg #[.int .i64 N, .slice a n c], .int .i64 x] w fun e w' => e = .returned (.bool (goodNet N l && decide (0 ≤ findQ l x))) ∧ Below w.heap.size w w' := by
  have H := hid h
  clear h
  cases h1 : goodNet N l
  · have HG := hid h1
    clear h1
    go_enter Try.func100, Try.ntmps100
    go_wp2_with fail
    refine (i_IsValidNetwork N _ _ _ l _ (H.out.below (by go_grown)) (by omega)).mono ?_
    rintro e w1 ⟨rfl, hb1⟩
    rw [HG.out]
    obtain ⟨hc_w1, hf_w1⟩ := bcell hb1
    have hz_w1_0 : w.heap.size < w1.heap.size := by have := hb1.size; simp only [World.size_alloc] at this; omega
    have HB1 := hid (bstep (by go_grown) hb1 : Below w.heap.size w w1)
    go_wp2
    go_ret
    exact ⟨rfl, HB1.out⟩
  · have HG := hid h1
    clear h1
    go_enter Try.func100, Try.ntmps100
    go_wp2_with fail
    refine (i_IsValidNetwork N _ _ _ l _ (H.out.below (by go_grown)) (by omega)).mono ?_
    rintro e w1 ⟨rfl, hb1⟩
    rw [HG.out]
    obtain ⟨hc_w1, hf_w1⟩ := bcell hb1
    have hz_w1_0 : w.heap.size < w1.heap.size := by have := hb1.size; simp only [World.size_alloc] at this; omega
    have HB1 := hid (bstep (by go_grown) hb1 : Below w.heap.size w w1)
    go_wp2_with fail
    refine (i_pipeIndex N x _ _ _ l _ (H.out.below HB1.out) hn).mono ?_
    rintro e w2 ⟨rfl, hb2⟩
    go_wp2
    go_ret
    exact ⟨rfl, bstep HB1.out hb2⟩

set_option maxRecDepth 100000 in
set_option maxHeartbeats 4000000 in
theorem i_RemovePipe (M k : Nat) (id : Int) (a : Option Addr) (n c : Nat) (l : List Pip) (w : World) (h : QAt w a n l) (hg : goodNet M l = true) (hk : findQ l id = k) (hkn : k < n) :
    Calls Try.prog 71 #[.agg #[.int .i64 M, .slice a n c], .int .i64 id] w fun e w' => ∃ a' c', e = .returned (.tuple #[.agg #[.int .i64 M, .slice a' (n - 1) c'], .bool true]) ∧ OwnQ w' w.heap.size (.slice a' (n - 1) c') (l.eraseIdx k) ∧ Below w.heap.size w w' := by
  obtain ⟨i0, hi, hz0, hz1', hz2⟩ := info_parts Try.infoPipe
  have HI := hid hi
  have HZ := hid hz0
  have HZ1 := hid hz1'
  have HZ2 := hid hz2
  clear hi hz0 hz1' hz2
  have hn : n ≤ 10 := by have := (goodNet_get hg).2.1; have := h.1; omega
  have HLN := hid h.1
  have H := hid h
  have HG := hid hg
  have H2 := hid (show (goodNet M l && decide (0 ≤ findQ l id)) = true by rw [hk, hg]; simp)
  have HK := hid hk
  obtain ⟨J, hJ⟩ : ∃ J, J = k + 1 := ⟨_, rfl⟩
  have hw : IntKind.i64.wrap ((k : Int) + 1) = (J : Int) := by rw [IntWalk.i64_in _ (by omega)]; omega
  have HJ := hid hJ
  clear h hg hk hJ
  go_enter Try.func71, Try.ntmps71
  go_upto_region 1 with fail
  have BA0 : Below w.heap.size w ((w.alloc (.cells #[.int .i64 M, .slice a (n) (c)] 31)).alloc (.cells #[.int .i64 0, .slice none 0 0] 31)) := by go_grown
  have ZA0 : ((w.alloc (.cells #[.int .i64 M, .slice a (n) (c)] 31)).alloc (.cells #[.int .i64 0, .slice none 0 0] 31)).heap.size = w.heap.size + 2 := by simp
  have TB0 : ((w.alloc (.cells #[.int .i64 M, .slice a (n) (c)] 31)).alloc (.cells #[.int .i64 0, .slice none 0 0] 31)).heap[w.heap.size + 1]? = some (.cells #[.int .i64 0, .slice none 0 0] 31 (0, 0)) := last_new _ _ _ (by simp)
  have TA0 : ((w.alloc (.cells #[.int .i64 M, .slice a (n) (c)] 31)).alloc (.cells #[.int .i64 0, .slice none 0 0] 31)).heap[w.heap.size]? = some (.cells #[.int .i64 M, .slice a (n) (c)] 31 (0, 0)) := mid_new _ _ _ _ rfl
  generalize (w.alloc (.cells #[.int .i64 M, .slice a (n) (c)] 31)).alloc (.cells #[.int .i64 0, .slice none 0 0] 31) = wA at *
  have BA := hid BA0
  have ZA := hid ZA0
  have TA := hid TA0
  have TB := hid TB0
  have KA := hid (show ∀ wx, Below wA.heap.size wA wx → (wx.cell? ⟨w.heap.size, 0, none⟩ = some (.int .i64 M) ∧ wx.cell? ⟨w.heap.size, 1, none⟩ = some (.slice a (n) (c))) from fun wx hb => ⟨by rw [hb.cell (p := ⟨w.heap.size, 0, none⟩) (by show w.heap.size < _; omega), cell_of_row wA _ _ _ _ (0, 0) TA0]; rfl, by rw [hb.cell (p := ⟨w.heap.size, 1, none⟩) (by show w.heap.size < _; omega), cell_of_row wA _ _ _ _ (0, 0) TA0]; rfl⟩)
  have n0 : wA.cell? ⟨w.heap.size, 0, none⟩ = some (.int .i64 M) := by rw [cell_of_row wA _ _ _ _ (0, 0) TA0]; rfl
  have n1 : wA.cell? ⟨w.heap.size, 1, none⟩ = some (.slice a (n) (c)) := by rw [cell_of_row wA _ _ _ _ (0, 0) TA0]; rfl
  have hzA : w.heap.size < wA.heap.size := by omega
  clear BA0 ZA0 TA0 TB0
  go_wp2_with fail
  refine (i_hasPipeR M id _ _ _ l _ (H.out.below BA.out) (by omega)).mono ?_
  rintro e w1 ⟨rfl, hb1⟩
  rw [H2.out]
  have HB1 := hid hb1
  clear n0 n1
  obtain ⟨n0, n1⟩ := KA.out _ hb1
  have hz1 : w.heap.size < w1.heap.size := World.block_lt_of_cell? w1 _ n0
  clear hb1
  go_wp2_with fail
  refine (i_pipeIndex M id _ _ _ l _ (H.out.below (bstep BA.out HB1.out)) (by omega)).mono ?_
  rintro e wR ⟨rfl, hbR⟩
  rw [HK.out]
  have HBR := hid (bstep HB1.out hbR)
  have BR := hid (bstep BA.out (bstep HB1.out hbR))
  have ZR := hid (show w.heap.size + 2 ≤ wR.heap.size from by have := HB1.out.size; have := hbR.size; have := ZA.out; omega)
  have TR := hid (((bstep HB1.out hbR).block (w.heap.size + 1) (by have := ZA.out; omega)).trans TB.out)
  have KR := hid (fun wx (hb : Below wR.heap.size wR wx) => KA.out wx (bstep (bstep HB1.out hbR) hb))
  clear n0 n1 hbR hz1
  obtain ⟨n0, n1⟩ := KR.out _ (Below.refl _ _)
  have hzR : w.heap.size < wR.heap.size := by have := ZR.out; omega
  go_upto_region 4 with fail
  go_region_held3 (fun w' => (w'.cell? ⟨w.heap.size, 0, none⟩ = some (.int .i64 M) ∧ w'.cell? ⟨w.heap.size, 1, none⟩ = some (.slice a n c))) (first | go_keep | exact KR.out _ (by first | assumption | go_grown))
    (first
      | (refine step_append_q (by rfl) _ _ (by rfl) (wR.heap.size) _ [] (by rfl) (by exact ((OwnS.lit0' rfl).drew')) _ n _ l (by rfl) (by exact H.out.below (bstep BR.out (by go_grown))) n (by simp) (by omega) (by simp) ?_; intro a4 c4 w4 h4 g4 b4; have hb4 : Below wR.heap.size wR w4 := Below.grown (by go_grown) g4 (by simp <;> omega) (fun q hq => by cases hq; exact Nat.le_refl _); obtain ⟨g5, rfl, hg51, hg52⟩ := ownQ_some h4 (by omega))
      | (go_at_call 47; refine (f_DeletePipe g5 n c4 k J _ ([] ++ l) _ h4 (by omega) hkn HJ.out).mono ?_; rintro e w11 ⟨rfl, h11, g11⟩; have hb11 : Below wR.heap.size wR w11 := hb4.grown g11 hb4.size (fun q hq => by cases hq; exact hg51); have y0 : w11.cell? ⟨w.heap.size + 1, 0, none⟩ = some (.int .i64 0) := (by rw [hb11.cell (p := ⟨w.heap.size + 1, 0, none⟩) (by show w.heap.size + 1 < _; have := ZR.out; omega), cell_of_row wR _ _ _ _ (0, 0) TR.out] <;> rfl); have y1 : w11.cell? ⟨w.heap.size + 1, 1, none⟩ = some (.slice none 0 0) := (by rw [hb11.cell (p := ⟨w.heap.size + 1, 1, none⟩) (by show w.heap.size + 1 < _; have := ZR.out; omega), cell_of_row wR _ _ _ _ (0, 0) TR.out] <;> rfl); have f0 : w11.frozen? ⟨w.heap.size + 1, 0, none⟩ = false := (hb11.frozen (p := ⟨w.heap.size + 1, 0, none⟩) (by show w.heap.size + 1 < _; have := ZR.out; omega)).trans (frozen_of_row wR _ 0 _ _ TR.out); have f1 : w11.frozen? ⟨w.heap.size + 1, 1, none⟩ = false := (hb11.frozen (p := ⟨w.heap.size + 1, 1, none⟩) (by show w.heap.size + 1 < _; have := ZR.out; omega)).trans (frozen_of_row wR _ 1 _ _ TR.out); have z1 : w.heap.size + 1 < w11.heap.size := (by have := hb11.size; have := ZR.out; omega)))
  have T11 : w11.heap[w.heap.size + 1]? = some (.cells #[.int .i64 0, .slice none 0 0] 31 (0, 0)) := (hb11.block (w.heap.size + 1) (by have := ZR.out; omega)).trans TR.out
  have e7 := heap_setCell_same _ _ 1 _ _ (.slice (some ⟨g5, 0, none⟩) (n - 1) c4) (heap_setCell_same _ _ 0 _ _ (.int .i64 M) T11)
  have u0 := cell_of_row _ _ 0 _ _ (0, 0) e7
  have u1 := cell_of_row _ _ 1 _ _ (0, 0) e7
  simp only [List.setIfInBounds_toArray, List.set_cons_zero, List.set_cons_succ, List.getElem?_toArray, List.getElem?_cons_zero, List.getElem?_cons_succ] at u0 u1
  rw [List.nil_append] at h11
  have HO := hid h11
  have HB := hid hb11
  clear g4 b4 g11 y0 y1 f0 f1 e7 T11 h4 hb4 h11 hb11
  go_wp2
  refine bodyPost_ret (v := .tuple #[.agg #[.int .i64 M, .slice (some ⟨g5, 0, none⟩) (n - 1) c4], .bool true]) (by simp [results, Try.results71, go_sem, *]) rfl ⟨_, _, rfl, ?_, ?_⟩
  · exact ((HO.out.far (by have := ZR.out; omega)).far (by have := ZR.out; omega)).mono (by have := ZR.out; omega)
  · exact ((bstep BR.out HB.out).setCell (by show w.heap.size ≤ w.heap.size + 1; omega) _).setCell (by show w.heap.size ≤ w.heap.size + 1; omega) _

end Go.Proofs.Ytikjighlnpdgiaa

/-
  OpenedRing, in the program and in the reference.
-/
set_option linter.unusedVariables false
set_option linter.unusedSimpArgs false
namespace Go.Proofs.Ytikjighlnpdgiaa
open Go.RowKit

/-- What OpenedRing returns. -/
noncomputable def openR (N : Int) (l : List Pip) (id : Int) : Int × List Pip × Bool := if (goodNet N l && ringB N l) = true ∧ 0 ≤ findQ l id ∧ ¬ (loopS l)[(findQ l id).toNat]?.getD 0 = 0 then (N, l.eraseIdx (findQ l id).toNat, true) else (0, [], false)
theorem openR_no {N : Int} {l : List Pip} {id : Int} (h : (goodNet N l && ringB N l) = false ∨ findQ l id = -1 ∨ (loopS l)[(findQ l id).toNat]?.getD 0 = 0) : openR N l id = (0, [], false) := by
  unfold openR
  rw [if_neg]
  rintro ⟨h1, h2, h3⟩
  rcases h with h | h | h
  · rw [h1] at h; cases h
  · omega
  · exact h3 h
theorem openR_len {N : Int} {l : List Pip} {id x : Int} {R : List Pip} {b : Bool} (h : openR N l id = (x, R, b)) : R.length ≤ 1000 := by
  unfold openR at h
  split at h
  · rename_i h1
    cases h
    have := (goodNet_get ((Bool.and_eq_true _ _).mp h1.1).1).2.1
    have h2 := List.length_eraseIdx_le l (findQ l id).toNat
    omega
  · cases h; simp

set_option maxRecDepth 100000 in
set_option maxHeartbeats 8000000 in
theorem i_OpenedRing (N id : Int) (a : Option Addr) (n c : Nat) (l : List Pip) (w : World) (h : QAt w a n l) (hn : n ≤ 1048576) (x : Int) (R : List Pip) (b : Bool) (hR : openR N l id = (x, R, b)) :
    Calls Try.prog 26 #[.agg #[.int .i64 N, .slice a n c], .int .i64 id] w fun e w' => ∃ a' m c', e = .returned (.tuple #[.agg #[.int .i64 x, .slice a' m c'], .bool b]) ∧ OwnQ w' w.heap.size (.slice a' m c') R ∧ Below w.heap.size w w' := by
  have hl := h.1
  have H := hid h
  clear h
  cases h12 : (goodNet N l && ringB N l)
  · rw [openR_no (.inl h12)] at hR
    cases hR
    obtain ⟨M, rfl⟩ : ∃ M : Int, M = N := ⟨_, rfl⟩
    have HF := hid h12
    clear h12 hl
    go_enter Try.func26, Try.ntmps26
    go_upto_region 1 with fail
    have BA0 : Below w.heap.size w ((w.alloc (.cells #[.int .i64 M, .slice a (n) (c)] 31)).alloc (.cells #[.int .i64 0, .slice none 0 0] 31)) := by go_grown
    have ZA0 : ((w.alloc (.cells #[.int .i64 M, .slice a (n) (c)] 31)).alloc (.cells #[.int .i64 0, .slice none 0 0] 31)).heap.size = w.heap.size + 2 := by simp
    have TB0 : ((w.alloc (.cells #[.int .i64 M, .slice a (n) (c)] 31)).alloc (.cells #[.int .i64 0, .slice none 0 0] 31)).heap[w.heap.size + 1]? = some (.cells #[.int .i64 0, .slice none 0 0] 31 (0, 0)) := last_new _ _ _ (by simp)
    have TA0 : ((w.alloc (.cells #[.int .i64 M, .slice a (n) (c)] 31)).alloc (.cells #[.int .i64 0, .slice none 0 0] 31)).heap[w.heap.size]? = some (.cells #[.int .i64 M, .slice a (n) (c)] 31 (0, 0)) := mid_new _ _ _ _ rfl
    generalize (w.alloc (.cells #[.int .i64 M, .slice a (n) (c)] 31)).alloc (.cells #[.int .i64 0, .slice none 0 0] 31) = wA at *
    have BA := hid BA0
    have ZA := hid ZA0
    have TA := hid TA0
    have TB := hid TB0
    have KA := hid (show ∀ wx, Below wA.heap.size wA wx → (wx.cell? ⟨w.heap.size, 0, none⟩ = some (.int .i64 M) ∧ wx.cell? ⟨w.heap.size, 1, none⟩ = some (.slice a (n) (c))) from fun wx hb => ⟨by rw [hb.cell (p := ⟨w.heap.size, 0, none⟩) (by show w.heap.size < _; omega), cell_of_row wA _ _ _ _ (0, 0) TA0]; rfl, by rw [hb.cell (p := ⟨w.heap.size, 1, none⟩) (by show w.heap.size < _; omega), cell_of_row wA _ _ _ _ (0, 0) TA0]; rfl⟩)
    have n0 : wA.cell? ⟨w.heap.size, 0, none⟩ = some (.int .i64 M) := by rw [cell_of_row wA _ _ _ _ (0, 0) TA0]; rfl
    have n1 : wA.cell? ⟨w.heap.size, 1, none⟩ = some (.slice a (n) (c)) := by rw [cell_of_row wA _ _ _ _ (0, 0) TA0]; rfl
    have hzA : w.heap.size < wA.heap.size := by omega
    clear BA0 ZA0 TA0 TB0
    have KX : Hid (∀ wy w5 : World, (Below wA.heap.size wA wy ∧ wy.cell? ⟨w.heap.size, 0, none⟩ = some (.int .i64 M) ∧ wy.cell? ⟨w.heap.size, 1, none⟩ = some (.slice a n c)) → Below wy.heap.size wy w5 → (Below wA.heap.size wA w5 ∧ w5.cell? ⟨w.heap.size, 0, none⟩ = some (.int .i64 M) ∧ w5.cell? ⟨w.heap.size, 1, none⟩ = some (.slice a n c))) := hid (fun wy w5 hq hb => ⟨bstep hq.1 hb, (hb.cell (World.block_lt_of_cell? wy _ hq.2.1)).trans hq.2.1, (hb.cell (World.block_lt_of_cell? wy _ hq.2.2)).trans hq.2.2⟩)
    have X := hid (show Below wA.heap.size wA wA.drew ∧ wA.drew.cell? ⟨w.heap.size, 0, none⟩ = some (.int .i64 M) ∧ wA.drew.cell? ⟨w.heap.size, 1, none⟩ = some (.slice a n c) from ⟨(Below.refl _ _).drew, n0, n1⟩)
    refine wp_region_calm (C := (fun w' => Below wA.heap.size wA w' ∧ w'.cell? ⟨w.heap.size, 0, none⟩ = some (.int .i64 M) ∧ w'.cell? ⟨w.heap.size, 1, none⟩ = some (.slice a n c))) (by kernel_rfl) (by kernel_rfl) (X.out) ?_
    repeat
      first
        | go_big_quiet_skip
        | (go_big_quiet_want
           first
             | (unfold Oper.quiet
                apply Exists.intro
                refine ⟨fun wq hq => ?_, ?_⟩
                · (try dsimp only at hq
                   simp [go_sem, Oper.quietAt, Oper.quietUpon, BigFrame.eval_const, BigFrame.eval_global, BigFrame.eval_func, ↓IntWalk.iteOmega, *]
                   first | done | rfl | (first | (refine calm_call hq KX.out (i_hasRing M _ _ _ l _ (H.out.below (bstep BA.out hq.1)) hn) (by rw [HF.out]))))
                simp only [Act.put, List.setIfInBounds_toArray, List.set_cons_succ, List.set_cons_zero]
                go_big_quiet_on))
    refine wpQuiet_nil ?_
    intro wc hcalm
    try dsimp only at hcalm
    have TC := hid ((hcalm.1.block (w.heap.size + 1) (by have := ZA.out; omega)).trans TB.out)
    have HB := hid (bstep BA.out hcalm.1)
    clear hcalm X KX n0 n1
    have y0 := cell_of_row wc _ 0 _ _ (0, 0) TC.out
    have y1 := cell_of_row wc _ 1 _ _ (0, 0) TC.out
    simp only [List.getElem?_toArray, List.getElem?_cons_zero, List.getElem?_cons_succ] at y0 y1
    have f0 := frozen_of_row wc _ 0 _ _ TC.out
    have f1 := frozen_of_row wc _ 1 _ _ TC.out
    have e7 := heap_setCell_same _ _ 1 _ _ (.slice none 0 0) (heap_setCell_same _ _ 0 _ _ (.int .i64 0) TC.out)
    have u0 := cell_of_row _ _ 0 _ _ (0, 0) e7
    have u1 := cell_of_row _ _ 1 _ _ (0, 0) e7
    simp only [List.setIfInBounds_toArray, List.set_cons_zero, List.set_cons_succ, List.getElem?_toArray, List.getElem?_cons_zero, List.getElem?_cons_succ] at u0 u1
    clear e7
    go_wp2
    refine bodyPost_ret (v := .tuple #[.agg #[.int .i64 0, .slice none 0 0], .bool false]) (by simp [results, Try.results26, go_sem, *]) rfl ⟨_, _, _, rfl, OwnS.nil _ _, ?_⟩
    exact (HB.out.setCell (by show w.heap.size ≤ w.heap.size + 1; omega) _).setCell (by show w.heap.size ≤ w.heap.size + 1; omega) _
  · obtain ⟨h1, h2⟩ := (Bool.and_eq_true _ _).mp h12
    have hN := (goodNet_get h1).1
    obtain ⟨M, rfl⟩ : ∃ M : Nat, N = M := ⟨N.toNat, by omega⟩
    have HF := hid h12
    have HG := hid h1
    have HR := hid h2
    rcases findQ_cases l id with hf | ⟨k, hk, hf⟩
    · rw [openR_no (.inr (.inl hf))] at hR
      cases hR
      have HK := hid hf
      clear h1 h2 h12 hl hN hf
      go_enter Try.func26, Try.ntmps26
      go_upto_region 1 with fail
      have BA0 : Below w.heap.size w ((w.alloc (.cells #[.int .i64 M, .slice a (n) (c)] 31)).alloc (.cells #[.int .i64 0, .slice none 0 0] 31)) := by go_grown
      have ZA0 : ((w.alloc (.cells #[.int .i64 M, .slice a (n) (c)] 31)).alloc (.cells #[.int .i64 0, .slice none 0 0] 31)).heap.size = w.heap.size + 2 := by simp
      have TB0 : ((w.alloc (.cells #[.int .i64 M, .slice a (n) (c)] 31)).alloc (.cells #[.int .i64 0, .slice none 0 0] 31)).heap[w.heap.size + 1]? = some (.cells #[.int .i64 0, .slice none 0 0] 31 (0, 0)) := last_new _ _ _ (by simp)
      have TA0 : ((w.alloc (.cells #[.int .i64 M, .slice a (n) (c)] 31)).alloc (.cells #[.int .i64 0, .slice none 0 0] 31)).heap[w.heap.size]? = some (.cells #[.int .i64 M, .slice a (n) (c)] 31 (0, 0)) := mid_new _ _ _ _ rfl
      generalize (w.alloc (.cells #[.int .i64 M, .slice a (n) (c)] 31)).alloc (.cells #[.int .i64 0, .slice none 0 0] 31) = wA at *
      have BA := hid BA0
      have ZA := hid ZA0
      have TA := hid TA0
      have TB := hid TB0
      have KA := hid (show ∀ wx, Below wA.heap.size wA wx → (wx.cell? ⟨w.heap.size, 0, none⟩ = some (.int .i64 M) ∧ wx.cell? ⟨w.heap.size, 1, none⟩ = some (.slice a (n) (c))) from fun wx hb => ⟨by rw [hb.cell (p := ⟨w.heap.size, 0, none⟩) (by show w.heap.size < _; omega), cell_of_row wA _ _ _ _ (0, 0) TA0]; rfl, by rw [hb.cell (p := ⟨w.heap.size, 1, none⟩) (by show w.heap.size < _; omega), cell_of_row wA _ _ _ _ (0, 0) TA0]; rfl⟩)
      have n0 : wA.cell? ⟨w.heap.size, 0, none⟩ = some (.int .i64 M) := by rw [cell_of_row wA _ _ _ _ (0, 0) TA0]; rfl
      have n1 : wA.cell? ⟨w.heap.size, 1, none⟩ = some (.slice a (n) (c)) := by rw [cell_of_row wA _ _ _ _ (0, 0) TA0]; rfl
      have hzA : w.heap.size < wA.heap.size := by omega
      clear BA0 ZA0 TA0 TB0
      have KX : Hid (∀ wy w5 : World, (Below wA.heap.size wA wy ∧ wy.cell? ⟨w.heap.size, 0, none⟩ = some (.int .i64 M) ∧ wy.cell? ⟨w.heap.size, 1, none⟩ = some (.slice a n c)) → Below wy.heap.size wy w5 → (Below wA.heap.size wA w5 ∧ w5.cell? ⟨w.heap.size, 0, none⟩ = some (.int .i64 M) ∧ w5.cell? ⟨w.heap.size, 1, none⟩ = some (.slice a n c))) := hid (fun wy w5 hq hb => ⟨bstep hq.1 hb, (hb.cell (World.block_lt_of_cell? wy _ hq.2.1)).trans hq.2.1, (hb.cell (World.block_lt_of_cell? wy _ hq.2.2)).trans hq.2.2⟩)
      have X := hid (show Below wA.heap.size wA wA.drew ∧ wA.drew.cell? ⟨w.heap.size, 0, none⟩ = some (.int .i64 M) ∧ wA.drew.cell? ⟨w.heap.size, 1, none⟩ = some (.slice a n c) from ⟨(Below.refl _ _).drew, n0, n1⟩)
      refine wp_region_calm (C := (fun w' => Below wA.heap.size wA w' ∧ w'.cell? ⟨w.heap.size, 0, none⟩ = some (.int .i64 M) ∧ w'.cell? ⟨w.heap.size, 1, none⟩ = some (.slice a n c))) (by kernel_rfl) (by kernel_rfl) (X.out) ?_
      repeat
        first
          | go_big_quiet_skip
          | (go_big_quiet_want
             first
               | (unfold Oper.quiet
                  apply Exists.intro
                  refine ⟨fun wq hq => ?_, ?_⟩
                  · (try dsimp only at hq
                     simp [go_sem, Oper.quietAt, Oper.quietUpon, BigFrame.eval_const, BigFrame.eval_global, BigFrame.eval_func, ↓IntWalk.iteOmega, *]
                     first | done | rfl | (first | (refine calm_call hq KX.out (i_hasRing M _ _ _ l _ (H.out.below (bstep BA.out hq.1)) hn) (by rw [HF.out])) | (refine calm_call hq KX.out (i_pipeIndex M id _ _ _ l _ (H.out.below (bstep BA.out hq.1)) hn) (by rw [HK.out]))))
                  simp only [Act.put, List.setIfInBounds_toArray, List.set_cons_succ, List.set_cons_zero]
                  go_big_quiet_on))
      refine wpQuiet_nil ?_
      intro wc hcalm
      try dsimp only at hcalm
      have TC := hid ((hcalm.1.block (w.heap.size + 1) (by have := ZA.out; omega)).trans TB.out)
      have HB := hid (bstep BA.out hcalm.1)
      clear hcalm X KX n0 n1
      have y0 := cell_of_row wc _ 0 _ _ (0, 0) TC.out
      have y1 := cell_of_row wc _ 1 _ _ (0, 0) TC.out
      simp only [List.getElem?_toArray, List.getElem?_cons_zero, List.getElem?_cons_succ] at y0 y1
      have f0 := frozen_of_row wc _ 0 _ _ TC.out
      have f1 := frozen_of_row wc _ 1 _ _ TC.out
      have e7 := heap_setCell_same _ _ 1 _ _ (.slice none 0 0) (heap_setCell_same _ _ 0 _ _ (.int .i64 0) TC.out)
      have u0 := cell_of_row _ _ 0 _ _ (0, 0) e7
      have u1 := cell_of_row _ _ 1 _ _ (0, 0) e7
      simp only [List.setIfInBounds_toArray, List.set_cons_zero, List.set_cons_succ, List.getElem?_toArray, List.getElem?_cons_zero, List.getElem?_cons_succ] at u0 u1
      clear e7
      go_wp2
      refine bodyPost_ret (v := .tuple #[.agg #[.int .i64 0, .slice none 0 0], .bool false]) (by simp [results, Try.results26, go_sem, *]) rfl ⟨_, _, _, rfl, OwnS.nil _ _, ?_⟩
      exact (HB.out.setCell (by show w.heap.size ≤ w.heap.size + 1; omega) _).setCell (by show w.heap.size ≤ w.heap.size + 1; omega) _
    · have hkn : k < n := by omega
      have HK := hid hf
      have hLK := loopS_len l
      obtain ⟨sg, hsg⟩ : ∃ sg, (loopS l)[k]?.getD 0 = sg := ⟨_, rfl⟩
      have HSG := hid hsg
      have k0 : (0 : Int) ≤ (k : Int) := by omega
      have k1 : (k : Int) < (n : Int) := by omega
      by_cases hs : sg = 0
      · rw [openR_no (.inr (.inr (by rw [hf]; show (loopS l)[k]?.getD 0 = 0; rw [hsg, hs])))] at hR
        cases hR
        subst hs
        clear h1 h2 h12 hl hN hf hsg
        go_enter Try.func26, Try.ntmps26
        go_upto_region 1 with fail
        have BA0 : Below w.heap.size w ((w.alloc (.cells #[.int .i64 M, .slice a (n) (c)] 31)).alloc (.cells #[.int .i64 0, .slice none 0 0] 31)) := by go_grown
        have ZA0 : ((w.alloc (.cells #[.int .i64 M, .slice a (n) (c)] 31)).alloc (.cells #[.int .i64 0, .slice none 0 0] 31)).heap.size = w.heap.size + 2 := by simp
        have TB0 : ((w.alloc (.cells #[.int .i64 M, .slice a (n) (c)] 31)).alloc (.cells #[.int .i64 0, .slice none 0 0] 31)).heap[w.heap.size + 1]? = some (.cells #[.int .i64 0, .slice none 0 0] 31 (0, 0)) := last_new _ _ _ (by simp)
        have TA0 : ((w.alloc (.cells #[.int .i64 M, .slice a (n) (c)] 31)).alloc (.cells #[.int .i64 0, .slice none 0 0] 31)).heap[w.heap.size]? = some (.cells #[.int .i64 M, .slice a (n) (c)] 31 (0, 0)) := mid_new _ _ _ _ rfl
        generalize (w.alloc (.cells #[.int .i64 M, .slice a (n) (c)] 31)).alloc (.cells #[.int .i64 0, .slice none 0 0] 31) = wA at *
        have BA := hid BA0
        have ZA := hid ZA0
        have TA := hid TA0
        have TB := hid TB0
        have KA := hid (show ∀ wx, Below wA.heap.size wA wx → (wx.cell? ⟨w.heap.size, 0, none⟩ = some (.int .i64 M) ∧ wx.cell? ⟨w.heap.size, 1, none⟩ = some (.slice a (n) (c))) from fun wx hb => ⟨by rw [hb.cell (p := ⟨w.heap.size, 0, none⟩) (by show w.heap.size < _; omega), cell_of_row wA _ _ _ _ (0, 0) TA0]; rfl, by rw [hb.cell (p := ⟨w.heap.size, 1, none⟩) (by show w.heap.size < _; omega), cell_of_row wA _ _ _ _ (0, 0) TA0]; rfl⟩)
        have n0 : wA.cell? ⟨w.heap.size, 0, none⟩ = some (.int .i64 M) := by rw [cell_of_row wA _ _ _ _ (0, 0) TA0]; rfl
        have n1 : wA.cell? ⟨w.heap.size, 1, none⟩ = some (.slice a (n) (c)) := by rw [cell_of_row wA _ _ _ _ (0, 0) TA0]; rfl
        have hzA : w.heap.size < wA.heap.size := by omega
        clear BA0 ZA0 TA0 TB0
        go_cut [24] (fun s wx => s = .bool true ∧ Hid (Below wA.heap.size wA wx))
        case first =>
          first
            | (go_region_with (first
                | (go_at_call 40; refine (i_hasRing M _ _ _ l _ (H.out.below (bstep BA.out (by go_grown))) hn).mono ?_; rintro e w5 ⟨rfl, hb5⟩; rw [HF.out]; have hbA : Below wA.heap.size wA w5 := (bstep ((Below.refl _ _).drew : Below wA.heap.size wA wA.drew) hb5); obtain ⟨z0, z1⟩ := KA.out _ hbA)
                | (go_at_call 44; refine (i_loopOf M _ _ _ l _ (H.out.below (bstep BA.out hbB)) HG.out HR.out).mono ?_; rintro e w7 ⟨a7, c7, rfl, ho7, hb7⟩; obtain ⟨g7, rfl, -, -⟩ := own_some ho7 (by omega); have hbC : Below wA.heap.size wA w7 := bstep hbB hb7; obtain ⟨p0, p1⟩ := KA.out _ hbC; have HO7 := hid ho7)
                | (go_at_call 70; refine (i_pipeIndex M id _ _ _ l _ (H.out.below (bstep BA.out hbC)) hn).mono ?_; rintro e w8 ⟨rfl, hb8⟩; rw [HK.out]; have hbD : Below wA.heap.size wA w8 := bstep hbC hb8; obtain ⟨r0, r1⟩ := KA.out _ hbD; have c8 := (HO7.out.below hb8).cell (k := k) hkn; rw [HSG.out] at c8)
                | (go_at_call 70; refine (i_pipeIndex M id _ _ _ l _ (H.out.below (bstep BA.out hbA)) hn).mono ?_; rintro e w6 ⟨rfl, hb6⟩; rw [HK.out]; have hbB : Below wA.heap.size wA w6 := bstep hbA hb6; obtain ⟨q0, q1⟩ := KA.out _ hbB)))
            | fail
          all_goals (go_wp2_with fail; go_meet)
          all_goals exact ⟨rfl, hid hbD⟩
        case rest =>
          obtain ⟨rfl, hx⟩ := hcut
          have TC := hid ((hx.out.block (w.heap.size + 1) (by have := ZA.out; omega)).trans TB.out)
          have HB := hid (bstep BA.out hx.out)
          clear n0 n1
          have y0 := cell_of_row wc _ 0 _ _ (0, 0) TC.out
          have y1 := cell_of_row wc _ 1 _ _ (0, 0) TC.out
          simp only [List.getElem?_toArray, List.getElem?_cons_zero, List.getElem?_cons_succ] at y0 y1
          have f0 := frozen_of_row wc _ 0 _ _ TC.out
          have f1 := frozen_of_row wc _ 1 _ _ TC.out
          have e7 := heap_setCell_same _ _ 1 _ _ (.slice none 0 0) (heap_setCell_same _ _ 0 _ _ (.int .i64 0) TC.out)
          have u0 := cell_of_row _ _ 0 _ _ (0, 0) e7
          have u1 := cell_of_row _ _ 1 _ _ (0, 0) e7
          simp only [List.setIfInBounds_toArray, List.set_cons_zero, List.set_cons_succ, List.getElem?_toArray, List.getElem?_cons_zero, List.getElem?_cons_succ] at u0 u1
          clear e7
          go_wp2
          refine bodyPost_ret (v := .tuple #[.agg #[.int .i64 0, .slice none 0 0], .bool false]) (by simp [results, Try.results26, go_sem, *]) rfl ⟨_, _, _, rfl, OwnS.nil _ _, ?_⟩
          exact (HB.out.setCell (by show w.heap.size ≤ w.heap.size + 1; omega) _).setCell (by show w.heap.size ≤ w.heap.size + 1; omega) _
      · have e0 : openR M l id = ((M : Int), l.eraseIdx k, true) := by
          unfold openR
          rw [if_pos ⟨h12, by omega, by rw [hf]; show ¬ (loopS l)[k]?.getD 0 = 0; rw [hsg]; exact hs⟩, hf]
          rfl
        rw [e0] at hR
        cases hR
        have hs2 : (sg == 0) = false := by simpa using hs
        clear h1 h2 h12 hl hN hf hsg e0
        go_enter Try.func26, Try.ntmps26
        go_upto_region 1 with fail
        have BA0 : Below w.heap.size w ((w.alloc (.cells #[.int .i64 M, .slice a (n) (c)] 31)).alloc (.cells #[.int .i64 0, .slice none 0 0] 31)) := by go_grown
        have ZA0 : ((w.alloc (.cells #[.int .i64 M, .slice a (n) (c)] 31)).alloc (.cells #[.int .i64 0, .slice none 0 0] 31)).heap.size = w.heap.size + 2 := by simp
        have TB0 : ((w.alloc (.cells #[.int .i64 M, .slice a (n) (c)] 31)).alloc (.cells #[.int .i64 0, .slice none 0 0] 31)).heap[w.heap.size + 1]? = some (.cells #[.int .i64 0, .slice none 0 0] 31 (0, 0)) := last_new _ _ _ (by simp)
        have TA0 : ((w.alloc (.cells #[.int .i64 M, .slice a (n) (c)] 31)).alloc (.cells #[.int .i64 0, .slice none 0 0] 31)).heap[w.heap.size]? = some (.cells #[.int .i64 M, .slice a (n) (c)] 31 (0, 0)) := mid_new _ _ _ _ rfl
        generalize (w.alloc (.cells #[.int .i64 M, .slice a (n) (c)] 31)).alloc (.cells #[.int .i64 0, .slice none 0 0] 31) = wA at *
        have BA := hid BA0
        have ZA := hid ZA0
        have TA := hid TA0
        have TB := hid TB0
        have KA := hid (show ∀ wx, Below wA.heap.size wA wx → (wx.cell? ⟨w.heap.size, 0, none⟩ = some (.int .i64 M) ∧ wx.cell? ⟨w.heap.size, 1, none⟩ = some (.slice a (n) (c))) from fun wx hb => ⟨by rw [hb.cell (p := ⟨w.heap.size, 0, none⟩) (by show w.heap.size < _; omega), cell_of_row wA _ _ _ _ (0, 0) TA0]; rfl, by rw [hb.cell (p := ⟨w.heap.size, 1, none⟩) (by show w.heap.size < _; omega), cell_of_row wA _ _ _ _ (0, 0) TA0]; rfl⟩)
        have n0 : wA.cell? ⟨w.heap.size, 0, none⟩ = some (.int .i64 M) := by rw [cell_of_row wA _ _ _ _ (0, 0) TA0]; rfl
        have n1 : wA.cell? ⟨w.heap.size, 1, none⟩ = some (.slice a (n) (c)) := by rw [cell_of_row wA _ _ _ _ (0, 0) TA0]; rfl
        have hzA : w.heap.size < wA.heap.size := by omega
        clear BA0 ZA0 TA0 TB0
        go_cut [24] (fun s wx => s = .bool false ∧ Hid (Below wA.heap.size wA wx))
        case first =>
          first
            | (go_region_with (first
                | (go_at_call 40; refine (i_hasRing M _ _ _ l _ (H.out.below (bstep BA.out (by go_grown))) hn).mono ?_; rintro e w5 ⟨rfl, hb5⟩; rw [HF.out]; have hbA : Below wA.heap.size wA w5 := (bstep ((Below.refl _ _).drew : Below wA.heap.size wA wA.drew) hb5); obtain ⟨z0, z1⟩ := KA.out _ hbA)
                | (go_at_call 44; refine (i_loopOf M _ _ _ l _ (H.out.below (bstep BA.out hbB)) HG.out HR.out).mono ?_; rintro e w7 ⟨a7, c7, rfl, ho7, hb7⟩; obtain ⟨g7, rfl, -, -⟩ := own_some ho7 (by omega); have hbC : Below wA.heap.size wA w7 := bstep hbB hb7; obtain ⟨p0, p1⟩ := KA.out _ hbC; have HO7 := hid ho7)
                | (go_at_call 70; refine (i_pipeIndex M id _ _ _ l _ (H.out.below (bstep BA.out hbC)) hn).mono ?_; rintro e w8 ⟨rfl, hb8⟩; rw [HK.out]; have hbD : Below wA.heap.size wA w8 := bstep hbC hb8; obtain ⟨r0, r1⟩ := KA.out _ hbD; have c8 := (HO7.out.below hb8).cell (k := k) hkn; rw [HSG.out] at c8)
                | (go_at_call 70; refine (i_pipeIndex M id _ _ _ l _ (H.out.below (bstep BA.out hbA)) hn).mono ?_; rintro e w6 ⟨rfl, hb6⟩; rw [HK.out]; have hbB : Below wA.heap.size wA w6 := bstep hbA hb6; obtain ⟨q0, q1⟩ := KA.out _ hbB)))
            | fail
          all_goals (go_wp2_with fail; go_meet)
          all_goals exact ⟨rfl, hid hbD⟩
        case rest =>
          obtain ⟨rfl, hx⟩ := hcut
          have HB := hid (bstep BA.out hx.out)
          clear n0 n1
          obtain ⟨n0, n1⟩ := KA.out _ hx.out
          have hzc : w.heap.size < wc.heap.size := World.block_lt_of_cell? wc _ n0
          have hzc2 : w.heap.size + 1 < wc.heap.size := by have := hx.out.size; have := ZA.out; omega
          go_wp2_with fail
          refine (i_RemovePipe M k id _ _ _ l _ (H.out.below HB.out) HG.out HK.out hkn).mono ?_
          rintro e w4 ⟨a4, c4, rfl, ho4, hb4⟩
          have TC := hid (((hb4.block (w.heap.size + 1) hzc2).trans (hx.out.block (w.heap.size + 1) (by have := ZA.out; omega))).trans TB.out)
          have HB4 := hid (bstep HB.out hb4)
          have HO4 := hid ho4
          clear ho4 hb4 hx n0 n1
          obtain ⟨m4, hm4⟩ : ∃ m4, n - 1 = m4 := ⟨_, rfl⟩
          rw [hm4] at HO4 ⊢
          clear hm4
          have y0 := cell_of_row w4 _ 0 _ _ (0, 0) TC.out
          have y1 := cell_of_row w4 _ 1 _ _ (0, 0) TC.out
          simp only [List.getElem?_toArray, List.getElem?_cons_zero, List.getElem?_cons_succ] at y0 y1
          have f0 := frozen_of_row w4 _ 0 _ _ TC.out
          have f1 := frozen_of_row w4 _ 1 _ _ TC.out
          have e7 := heap_setCell_same _ _ 1 _ _ (.slice a4 m4 c4) (heap_setCell_same _ _ 0 _ _ (.int .i64 M) TC.out)
          have u0 := cell_of_row _ _ 0 _ _ (0, 0) e7
          have u1 := cell_of_row _ _ 1 _ _ (0, 0) e7
          simp only [List.setIfInBounds_toArray, List.set_cons_zero, List.set_cons_succ, List.getElem?_toArray, List.getElem?_cons_zero, List.getElem?_cons_succ] at u0 u1
          clear e7
          go_wp2
          refine bodyPost_ret (v := .tuple #[.agg #[.int .i64 M, .slice a4 m4 c4], .bool true]) (by simp [results, Try.results26, go_sem, *]) rfl ⟨_, _, _, rfl, ((HO4.out.far (by show w.heap.size + 1 < _; omega)).far (by show w.heap.size + 1 < _; omega)).mono (by omega), ?_⟩
          exact (HB4.out.setCell (by show w.heap.size ≤ w.heap.size + 1; omega) _).setCell (by show w.heap.size ≤ w.heap.size + 1; omega) _


theorem i_OpenedRing' (N id : Int) (a : Option Addr) (n c : Nat) (l : List Pip) (w : World) (h : QAt w a n l) (hn : n ≤ 1048576) (x : Int) (R : List Pip) (b : Bool) (hR : openR N l id = (x, R, b)) :
    Calls Try.prog 26 #[.agg #[.int .i64 N, .slice a n c], .int .i64 id] w fun e w' => ∃ a' c', e = .returned (.tuple #[.agg #[.int .i64 x, .slice a' R.length c'], .bool b]) ∧ OwnQ w' w.heap.size (.slice a' R.length c') R ∧ Below w.heap.size w w' :=
  (i_OpenedRing N id a n c l w h hn x R b hR).mono fun _ _ ⟨a', m, c', he, ho, hb⟩ => by
    have := OwnS.len ho
    subst this
    exact ⟨a', c', he, ho, hb⟩


end Go.Proofs.Ytikjighlnpdgiaa

/-
  The pipes of the loop and the bridges, plain: each pipe of a valid ring is of the loop or a bridge; the first sign is one; without a pipe of the loop a tree is left.
-/
set_option linter.unusedVariables false
set_option linter.unusedSimpArgs false
namespace Go.Proofs.Ytikjighlnpdgiaa
open Go.RowKit

/-- The bridges among the first k pipes. -/
noncomputable def bridL (l : List Pip) : Nat → List Int
  | 0 => []
  | k + 1 => if onL l k = true then bridL l k else bridL l k ++ [(pp l k).1]
theorem bridL_yes {l : List Pip} {k : Nat} (h : onL l k = true) : bridL l (k + 1) = bridL l k := by rw [bridL, if_pos h]
theorem bridL_no {l : List Pip} {k : Nat} (h : onL l k = false) : bridL l (k + 1) = bridL l k ++ [(pp l k).1] := by rw [bridL, if_neg (by simp [h])]
theorem bridL_len (l : List Pip) : ∀ k, (bridL l k).length ≤ k
  | 0 => Nat.le_refl _
  | k + 1 => by
    have ih := bridL_len l k
    cases h : onL l k
    · rw [bridL_no h]; simp; omega
    · rw [bridL_yes h]; omega
theorem mem_bridL {l : List Pip} {x : Int} : ∀ {k : Nat}, x ∈ bridL l k → ∃ i, i < k ∧ x = (pp l i).1 ∧ onL l i = false
  | 0, h => by simp [bridL] at h
  | k + 1, h => by
    cases h1 : onL l k
    · rw [bridL_no h1, List.mem_append, List.mem_singleton] at h
      rcases h with h | h
      · obtain ⟨i, a, b, c⟩ := mem_bridL h
        exact ⟨i, by omega, b, c⟩
      · exact ⟨k, by omega, h, h1⟩
    · rw [bridL_yes h1] at h
      obtain ⟨i, a, b, c⟩ := mem_bridL h
      exact ⟨i, by omega, b, c⟩
theorem mem_idsL {l : List Pip} {x : Int} : ∀ {k : Nat}, x ∈ idsL l k → ∃ i, i < k ∧ x = (pp l i).1 ∧ ¬ (loopS l)[i]?.getD 0 = 0
  | 0, h => by simp [idsL] at h
  | k + 1, h => by
    by_cases h1 : (loopS l)[k]?.getD 0 = 0
    · rw [(idsL_no h1).1] at h
      obtain ⟨i, a, b, c⟩ := mem_idsL h
      exact ⟨i, by omega, b, c⟩
    · rw [(idsL_yes h1).1, List.mem_append, List.mem_singleton] at h
      rcases h with h | h
      · obtain ⟨i, a, b, c⟩ := mem_idsL h
        exact ⟨i, by omega, b, c⟩
      · exact ⟨k, by omega, h, h1⟩
theorem ids_both {M : Nat} {l : List Pip} (hg : goodNet M l = true) (hr : ringB M l = true) : ∀ k, k ≤ l.length → (idsL l k).length + (bridL l k).length = k
  | 0, _ => rfl
  | k + 1, hk => by
    have ih := ids_both hg hr k (by omega)
    have h := loopS_on hg hr (show k < l.length by omega)
    by_cases h1 : (loopS l)[k]?.getD 0 = 0
    · rw [(idsL_no h1).1, bridL_no (h.1 h1), List.length_append]
      simp
      omega
    · have h2 : onL l k = true := by
        cases e : onL l k
        · exact absurd (h.2 e) h1
        · rfl
      rw [(idsL_yes h1).1, bridL_yes h2, List.length_append]
      simp
      omega
theorem idsL_mono {l : List Pip} {k : Nat} : ∀ m, k ≤ m → (idsL l k).length ≤ (idsL l m).length
  | 0, h => by rw [show k = 0 by omega]; exact Nat.le_refl _
  | m + 1, h => by
    by_cases e : k = m + 1
    · subst e; exact Nat.le_refl _
    · have ih := idsL_mono (l := l) m (by omega : k ≤ m)
      by_cases h1 : (loopS l)[m]?.getD 0 = 0
      · rw [(idsL_no h1).1]; exact ih
      · rw [(idsL_yes h1).1, List.length_append]; omega
theorem idsL_up {l : List Pip} {i : Nat} (h : ¬ (loopS l)[i]?.getD 0 = 0) {m : Nat} (hm : i < m) : (idsL l i).length < (idsL l m).length := by
  have a := idsL_mono (l := l) m (show i + 1 ≤ m by omega)
  rw [(idsL_yes h).1, List.length_append, List.length_singleton] at a
  omega
/-- Ahead of the first pipe of the loop there is no sign; its own is one. -/
theorem sigs_first {l : List Pip} {i0 : Nat} {v : Nat → Int} {q : Nat → Nat} (hi : i0 < l.length) : ∀ j, (∀ k, k < j → q k ≠ i0) → (sigs l i0 v q j)[i0]?.getD 0 = 1
  | 0, _ => by
    rw [show sigs l i0 v q 0 = (List.replicate l.length 0).set i0 1 from rfl, set_at (by simpa using hi), if_pos rfl]
  | j + 1, h => by
    rw [show sigs l i0 v q (j + 1) = (sigs l i0 v q j).set (q j) (sgn l v q j) from rfl, set_at (by rw [sigs_len]; exact hi), if_neg (h j (by omega))]
    exact sigs_first hi j (fun k hk => h k (by omega))
theorem ids_none {l : List Pip} {i0 : Nat} (h : ∀ j, j < i0 → (loopS l)[j]?.getD 0 = 0) : ∀ k, k ≤ i0 → idsL l k = [] ∧ sgnL l k = []
  | 0, _ => ⟨rfl, rfl⟩
  | k + 1, hk => by
    have ih := ids_none h k (by omega)
    have h1 := h k (by omega)
    rw [(idsL_no h1).1, (idsL_no h1).2]
    exact ih
theorem sgnL_head {l : List Pip} {i0 : Nat} (h : ∀ j, j < i0 → (loopS l)[j]?.getD 0 = 0) (h1 : (loopS l)[i0]?.getD 0 = 1) : ∀ m, i0 < m → (sgnL l m)[0]?.getD 0 = 1 ∧ 0 < (sgnL l m).length
  | 0, hm => by omega
  | m + 1, hm => by
    by_cases e : i0 = m
    · subst e
      rw [(idsL_yes (by omega)).2, (ids_none h i0 (Nat.le_refl _)).2]
      simp [h1]
    · have ih := sgnL_head h h1 m (by omega)
      by_cases h2 : (loopS l)[m]?.getD 0 = 0
      · rw [(idsL_no h2).2]; exact ih
      · rw [(idsL_yes h2).2, List.getElem?_append_left ih.2]
        exact ⟨ih.1, by rw [List.length_append]; omega⟩

/-- The answers on the loop of a ring. -/
theorem loop_yes {N : Int} {l : List Pip} {R S : List Int} (h : loopR N l = (R, S, true)) : goodNet N l = true ∧ ringR N l = (true, true) ∧ R.length + (bridL l l.length).length = l.length ∧ 2 ≤ R.length ∧ S.length = R.length ∧ S[0]?.getD 0 = 1 ∧
    ∀ k, k < R.length → R[k]?.getD 0 ∉ bridL l l.length ∧ ∃ T, openR N l (R[k]?.getD 0) = (N, T, true) ∧ treeR N T = (true, true) ∧ T.length ≤ 1000 := by
  unfold loopR at h
  split at h
  · rename_i h1
    obtain ⟨hg, hr⟩ := (Bool.and_eq_true _ _).mp h1
    have hN := (goodNet_get hg).1
    have hl10 := (goodNet_get hg).2.1
    obtain ⟨M, rfl⟩ : ∃ M : Nat, N = M := ⟨N.toNat, by omega⟩
    simp only [Prod.mk.injEq, and_true] at h
    obtain ⟨rfl, rfl⟩ := h
    obtain ⟨i0, d, v, q, hL, hon, hfi, hS, -, -⟩ := loop_data hg hr
    have hp := (goodNet_pipe hg hL.lt0).2.2.2.1
    have hd : 0 < d := by
      apply Classical.byContradiction
      intro h0
      obtain rfl : d = 0 := by omega
      have a := hL.v0
      have b := hL.vd
      omega
    have hne := hL.qne 0 hd
    have hq0 := hL.qlt 0 hd
    have hs0 : (loopS l)[i0]?.getD 0 = 1 := by rw [hS]; exact sigs_first hL.lt0 d (fun k hk => hL.qne k hk)
    have hsq : ¬ (loopS l)[q 0]?.getD 0 = 0 := by
      rw [hS, sigs_zero l i0 v q hq0]
      exact fun e => e.2 0 hd rfl
    have hz : ∀ j, j < i0 → (loopS l)[j]?.getD 0 = 0 := fun j hj => (loopS_on hg hr (by have := hL.lt0; omega)).2 (hfi j hj)
    have hlt : i0 < q 0 := by
      apply Classical.byContradiction
      intro hx
      exact hsq (hz (q 0) (by omega))
    have ha := idsL_up (l := l) (i := i0) (by omega) hlt
    have hb := idsL_up hsq hq0
    refine ⟨hg, by unfold ringR; rw [if_pos hg, hr], ids_both hg hr _ (Nat.le_refl _), by omega, (idsL_len l l.length).2, (sgnL_head hz hs0 l.length hL.lt0).1, fun k hk => ?_⟩
    obtain ⟨i, hi, hx, hsi⟩ := mem_idsL (getD_mem _ k hk)
    rw [hx]
    have hoi : onL l i = true := by
      cases e : onL l i
      · exact absurd ((loopS_on hg hr hi).2 e) hsi
      · rfl
    refine ⟨fun hm => ?_, l.eraseIdx i, ?_, ?_, ?_⟩
    · obtain ⟨j, hj, hy, hoj⟩ := mem_bridL hm
      have hij : i = j := by
        apply Classical.byContradiction
        intro hn
        by_cases h2 : i < j
        · have := ids_rise hg j i hj h2; omega
        · have := ids_rise hg i j hi (by omega); omega
      subst hij
      rw [hoi] at hoj
      cases hoj
    · unfold openR
      rw [findQ_at hg hi, if_pos ⟨h1, by omega, by rw [Int.toNat_natCast]; exact hsi⟩, Int.toNat_natCast]
    · unfold treeR
      rw [if_pos (goodNet_sub (List.eraseIdx_sublist l i) hg), ring_tree hg hr hi hoi]
    · have := List.length_eraseIdx_le l i
      omega
  · simp only [Prod.mk.injEq] at h
    exact absurd h.2.2 (by simp)

end Go.Proofs.Ytikjighlnpdgiaa

