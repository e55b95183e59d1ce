/-
  RemovePipe, where the pipe is there.
-/
import Derived.Test.YthhogblnndmenaaDelQ
import Derived.Test.YthhogblnndmenaaNetL
import Derived.Test.YthhogblnndmenaaNetI
set_option linter.unusedVariables false
set_option linter.unusedSimpArgs false
namespace Go.Proofs.Ythhogblnndmenaa
open Go.RowKit

theorem ownQ_some {w : World} {B n c : Nat} {a : Option Addr} {l : List Pip} (h : OwnQ w B (.slice a n c) l) (hn : 0 < n) : ∃ g, a = some ⟨g, 0, none⟩ ∧ B ≤ g ∧ g < w.heap.size := by
  have hlt := OwnS.lt h
  have hl := OwnS.len h
  rcases h.2 with ⟨h1, h0⟩ | ⟨g, cap, cur, h1, hB, hg, hnc, hm, hs, ht⟩
  · simp only [Value.slice.injEq] at h1
    omega
  · simp only [Value.slice.injEq] at h1
    obtain ⟨rfl, -, -⟩ := h1
    exact ⟨g, rfl, hB, (hlt g rfl).2⟩

theorem i_hasPipeR (N x : Int) (a : Option Addr) (n c : Nat) (l : List Pip) (w : World) (h : QAt w a n l) (hn : n ≤ 1048576) :
    Calls Try.prog 116 #[.agg #[.int .i64 N, .slice a n c], .int .i64 x] w fun e w' => e = .returned (.bool (goodNet N l && decide (0 ≤ findQ l x))) ∧ Below w.heap.size w w' := by
  have H := hid h
  clear h
  cases h1 : goodNet N l
  · have HG := hid h1
    clear h1
    go_enter Try.func116, Try.ntmps116
    go_wp2_with fail
    refine (i_IsValidNetwork N _ _ _ l _ (H.out.below (by go_grown)) (by omega)).mono ?_
    rintro e w1 ⟨rfl, hb1⟩
    rw [HG.out]
    obtain ⟨hc_w1, hf_w1⟩ := bcell hb1
    have hz_w1_0 : w.heap.size < w1.heap.size := by have := hb1.size; simp only [World.size_alloc] at this; omega
    have HB1 := hid (bstep (by go_grown) hb1 : Below w.heap.size w w1)
    go_wp2
    go_ret
    exact ⟨rfl, HB1.out⟩
  · have HG := hid h1
    clear h1
    go_enter Try.func116, Try.ntmps116
    go_wp2_with fail
    refine (i_IsValidNetwork N _ _ _ l _ (H.out.below (by go_grown)) (by omega)).mono ?_
    rintro e w1 ⟨rfl, hb1⟩
    rw [HG.out]
    obtain ⟨hc_w1, hf_w1⟩ := bcell hb1
    have hz_w1_0 : w.heap.size < w1.heap.size := by have := hb1.size; simp only [World.size_alloc] at this; omega
    have HB1 := hid (bstep (by go_grown) hb1 : Below w.heap.size w w1)
    go_wp2_with fail
    refine (i_pipeIndex N x _ _ _ l _ (H.out.below HB1.out) hn).mono ?_
    rintro e w2 ⟨rfl, hb2⟩
    go_wp2
    go_ret
    exact ⟨rfl, bstep HB1.out hb2⟩

set_option maxRecDepth 100000 in
set_option maxHeartbeats 4000000 in
theorem i_RemovePipe (M k : Nat) (id : Int) (a : Option Addr) (n c : Nat) (l : List Pip) (w : World) (h : QAt w a n l) (hg : goodNet M l = true) (hk : findQ l id = k) (hkn : k < n) :
    Calls Try.prog 72 #[.agg #[.int .i64 M, .slice a n c], .int .i64 id] w fun e w' => ∃ a' c', e = .returned (.tuple #[.agg #[.int .i64 M, .slice a' (n - 1) c'], .bool true]) ∧ OwnQ w' w.heap.size (.slice a' (n - 1) c') (l.eraseIdx k) ∧ Below w.heap.size w w' := by
  obtain ⟨i0, hi, hz0, hz1', hz2⟩ := info_parts Try.infoPipe
  have HI := hid hi
  have HZ := hid hz0
  have HZ1 := hid hz1'
  have HZ2 := hid hz2
  clear hi hz0 hz1' hz2
  have hn : n ≤ 10 := by have := (goodNet_get hg).2.1; have := h.1; omega
  have HLN := hid h.1
  have H := hid h
  have HG := hid hg
  have H2 := hid (show (goodNet M l && decide (0 ≤ findQ l id)) = true by rw [hk, hg]; simp)
  have HK := hid hk
  obtain ⟨J, hJ⟩ : ∃ J, J = k + 1 := ⟨_, rfl⟩
  have hw : IntKind.i64.wrap ((k : Int) + 1) = (J : Int) := by rw [IntWalk.i64_in _ (by omega)]; omega
  have HJ := hid hJ
  clear h hg hk hJ
  go_enter Try.func72, Try.ntmps72
  go_upto_region 1 with fail
  have BA0 : Below w.heap.size w ((w.alloc (.cells #[.int .i64 M, .slice a (n) (c)] 31)).alloc (.cells #[.int .i64 0, .slice none 0 0] 31)) := by go_grown
  have ZA0 : ((w.alloc (.cells #[.int .i64 M, .slice a (n) (c)] 31)).alloc (.cells #[.int .i64 0, .slice none 0 0] 31)).heap.size = w.heap.size + 2 := by simp
  have TB0 : ((w.alloc (.cells #[.int .i64 M, .slice a (n) (c)] 31)).alloc (.cells #[.int .i64 0, .slice none 0 0] 31)).heap[w.heap.size + 1]? = some (.cells #[.int .i64 0, .slice none 0 0] 31 (0, 0)) := last_new _ _ _ (by simp)
  have TA0 : ((w.alloc (.cells #[.int .i64 M, .slice a (n) (c)] 31)).alloc (.cells #[.int .i64 0, .slice none 0 0] 31)).heap[w.heap.size]? = some (.cells #[.int .i64 M, .slice a (n) (c)] 31 (0, 0)) := mid_new _ _ _ _ rfl
  generalize (w.alloc (.cells #[.int .i64 M, .slice a (n) (c)] 31)).alloc (.cells #[.int .i64 0, .slice none 0 0] 31) = wA at *
  have BA := hid BA0
  have ZA := hid ZA0
  have TA := hid TA0
  have TB := hid TB0
  have KA := hid (show ∀ wx, Below wA.heap.size wA wx → (wx.cell? ⟨w.heap.size, 0, none⟩ = some (.int .i64 M) ∧ wx.cell? ⟨w.heap.size, 1, none⟩ = some (.slice a (n) (c))) from fun wx hb => ⟨by rw [hb.cell (p := ⟨w.heap.size, 0, none⟩) (by show w.heap.size < _; omega), cell_of_row wA _ _ _ _ (0, 0) TA0]; rfl, by rw [hb.cell (p := ⟨w.heap.size, 1, none⟩) (by show w.heap.size < _; omega), cell_of_row wA _ _ _ _ (0, 0) TA0]; rfl⟩)
  have n0 : wA.cell? ⟨w.heap.size, 0, none⟩ = some (.int .i64 M) := by rw [cell_of_row wA _ _ _ _ (0, 0) TA0]; rfl
  have n1 : wA.cell? ⟨w.heap.size, 1, none⟩ = some (.slice a (n) (c)) := by rw [cell_of_row wA _ _ _ _ (0, 0) TA0]; rfl
  have hzA : w.heap.size < wA.heap.size := by omega
  clear BA0 ZA0 TA0 TB0
  go_wp2_with fail
  refine (i_hasPipeR M id _ _ _ l _ (H.out.below BA.out) (by omega)).mono ?_
  rintro e w1 ⟨rfl, hb1⟩
  rw [H2.out]
  have HB1 := hid hb1
  clear n0 n1
  obtain ⟨n0, n1⟩ := KA.out _ hb1
  have hz1 : w.heap.size < w1.heap.size := World.block_lt_of_cell? w1 _ n0
  clear hb1
  go_wp2_with fail
  refine (i_pipeIndex M id _ _ _ l _ (H.out.below (bstep BA.out HB1.out)) (by omega)).mono ?_
  rintro e wR ⟨rfl, hbR⟩
  rw [HK.out]
  have HBR := hid (bstep HB1.out hbR)
  have BR := hid (bstep BA.out (bstep HB1.out hbR))
  have ZR := hid (show w.heap.size + 2 ≤ wR.heap.size from by have := HB1.out.size; have := hbR.size; have := ZA.out; omega)
  have TR := hid (((bstep HB1.out hbR).block (w.heap.size + 1) (by have := ZA.out; omega)).trans TB.out)
  have KR := hid (fun wx (hb : Below wR.heap.size wR wx) => KA.out wx (bstep (bstep HB1.out hbR) hb))
  clear n0 n1 hbR hz1
  obtain ⟨n0, n1⟩ := KR.out _ (Below.refl _ _)
  have hzR : w.heap.size < wR.heap.size := by have := ZR.out; omega
  go_upto_region 4 with fail
  go_region_held3 (fun w' => (w'.cell? ⟨w.heap.size, 0, none⟩ = some (.int .i64 M) ∧ w'.cell? ⟨w.heap.size, 1, none⟩ = some (.slice a n c))) (first | go_keep | exact KR.out _ (by first | assumption | go_grown))
    (first
      | (refine step_append_q (by rfl) _ _ (by rfl) (wR.heap.size) _ [] (by rfl) (by exact ((OwnS.lit0' rfl).drew')) _ n _ l (by rfl) (by exact H.out.below (bstep BR.out (by go_grown))) n (by simp) (by omega) (by simp) ?_; intro a4 c4 w4 h4 g4 b4; have hb4 : Below wR.heap.size wR w4 := Below.grown (by go_grown) g4 (by simp <;> omega) (fun q hq => by cases hq; exact Nat.le_refl _); obtain ⟨g5, rfl, hg51, hg52⟩ := ownQ_some h4 (by omega))
      | (go_at_call 96; refine (f_DeletePipe g5 n c4 k J _ ([] ++ l) _ h4 (by omega) hkn HJ.out).mono ?_; rintro e w11 ⟨rfl, h11, g11⟩; have hb11 : Below wR.heap.size wR w11 := hb4.grown g11 hb4.size (fun q hq => by cases hq; exact hg51); have y0 : w11.cell? ⟨w.heap.size + 1, 0, none⟩ = some (.int .i64 0) := (by rw [hb11.cell (p := ⟨w.heap.size + 1, 0, none⟩) (by show w.heap.size + 1 < _; have := ZR.out; omega), cell_of_row wR _ _ _ _ (0, 0) TR.out] <;> rfl); have y1 : w11.cell? ⟨w.heap.size + 1, 1, none⟩ = some (.slice none 0 0) := (by rw [hb11.cell (p := ⟨w.heap.size + 1, 1, none⟩) (by show w.heap.size + 1 < _; have := ZR.out; omega), cell_of_row wR _ _ _ _ (0, 0) TR.out] <;> rfl); have f0 : w11.frozen? ⟨w.heap.size + 1, 0, none⟩ = false := (hb11.frozen (p := ⟨w.heap.size + 1, 0, none⟩) (by show w.heap.size + 1 < _; have := ZR.out; omega)).trans (frozen_of_row wR _ 0 _ _ TR.out); have f1 : w11.frozen? ⟨w.heap.size + 1, 1, none⟩ = false := (hb11.frozen (p := ⟨w.heap.size + 1, 1, none⟩) (by show w.heap.size + 1 < _; have := ZR.out; omega)).trans (frozen_of_row wR _ 1 _ _ TR.out); have z1 : w.heap.size + 1 < w11.heap.size := (by have := hb11.size; have := ZR.out; omega)))
  have T11 : w11.heap[w.heap.size + 1]? = some (.cells #[.int .i64 0, .slice none 0 0] 31 (0, 0)) := (hb11.block (w.heap.size + 1) (by have := ZR.out; omega)).trans TR.out
  have e7 := heap_setCell_same _ _ 1 _ _ (.slice (some ⟨g5, 0, none⟩) (n - 1) c4) (heap_setCell_same _ _ 0 _ _ (.int .i64 M) T11)
  have u0 := cell_of_row _ _ 0 _ _ (0, 0) e7
  have u1 := cell_of_row _ _ 1 _ _ (0, 0) e7
  simp only [List.setIfInBounds_toArray, List.set_cons_zero, List.set_cons_succ, List.getElem?_toArray, List.getElem?_cons_zero, List.getElem?_cons_succ] at u0 u1
  rw [List.nil_append] at h11
  have HO := hid h11
  have HB := hid hb11
  clear g4 b4 g11 y0 y1 f0 f1 e7 T11 h4 hb4 h11 hb11
  go_wp2
  refine bodyPost_ret (v := .tuple #[.agg #[.int .i64 M, .slice (some ⟨g5, 0, none⟩) (n - 1) c4], .bool true]) (by simp [results, Try.results72, go_sem, *]) rfl ⟨_, _, rfl, ?_, ?_⟩
  · exact ((HO.out.far (by have := ZR.out; omega)).far (by have := ZR.out; omega)).mono (by have := ZR.out; omega)
  · exact ((bstep BR.out HB.out).setCell (by show w.heap.size ≤ w.heap.size + 1; omega) _).setCell (by show w.heap.size ≤ w.heap.size + 1; omega) _

end Go.Proofs.Ythhogblnndmenaa
