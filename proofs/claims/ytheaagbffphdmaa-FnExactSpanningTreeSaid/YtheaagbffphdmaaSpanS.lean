/-
  SpanningTree, in the reference.
-/
import Derived.Test.YtheaagbffphdmaaSpanR
set_option linter.unusedVariables false
set_option linter.unusedSimpArgs false
namespace Go.Proofs.Ytheaagbffphdmaa
open Go.RowKit

set_option maxRecDepth 100000 in
set_option maxHeartbeats 4000000 in
theorem s_SpanningTree_no (M : Int) (a : Option Addr) (n c : Nat) (l : List Pip) (w : World) (h : QAt w a n l) (hn : n ≤ 1048576) (h1 : goodNet M l = false) :
    Calls Try.prog 44 #[.agg #[.int .i64 M, .slice a n c]] w fun e w' => ∃ a' m c', e = .returned (.tuple #[.agg #[.int .i64 0, .slice a' m c'], .bool false]) ∧ OwnQ w' w.heap.size (.slice a' m c') [] ∧ Below w.heap.size w w' := by
  have H := hid h
  have HG := hid h1
  clear h h1
  go_enter Try.func44, Try.ntmps44
  go_upto_region 1 with fail
  have BA0 : Below w.heap.size w ((w.alloc (.cells #[.int .i64 M, .slice a (n) (c)] 31)).alloc (.cells #[.int .i64 0, .slice none 0 0] 31)) := by go_grown
  have ZA0 : ((w.alloc (.cells #[.int .i64 M, .slice a (n) (c)] 31)).alloc (.cells #[.int .i64 0, .slice none 0 0] 31)).heap.size = w.heap.size + 2 := by simp
  have TB0 : ((w.alloc (.cells #[.int .i64 M, .slice a (n) (c)] 31)).alloc (.cells #[.int .i64 0, .slice none 0 0] 31)).heap[w.heap.size + 1]? = some (.cells #[.int .i64 0, .slice none 0 0] 31 (0, 0)) := last_new _ _ _ (by simp)
  have TA0 : ((w.alloc (.cells #[.int .i64 M, .slice a (n) (c)] 31)).alloc (.cells #[.int .i64 0, .slice none 0 0] 31)).heap[w.heap.size]? = some (.cells #[.int .i64 M, .slice a (n) (c)] 31 (0, 0)) := mid_new _ _ _ _ rfl
  generalize (w.alloc (.cells #[.int .i64 M, .slice a (n) (c)] 31)).alloc (.cells #[.int .i64 0, .slice none 0 0] 31) = wA at *
  have BA := hid BA0
  have ZA := hid ZA0
  have TA := hid TA0
  have TB := hid TB0
  have KA := hid (show ∀ wx, Below wA.heap.size wA wx → (wx.cell? ⟨w.heap.size, 0, none⟩ = some (.int .i64 M) ∧ wx.cell? ⟨w.heap.size, 1, none⟩ = some (.slice a (n) (c))) from fun wx hb => ⟨by rw [hb.cell (p := ⟨w.heap.size, 0, none⟩) (by show w.heap.size < _; omega), cell_of_row wA _ _ _ _ (0, 0) TA0]; rfl, by rw [hb.cell (p := ⟨w.heap.size, 1, none⟩) (by show w.heap.size < _; omega), cell_of_row wA _ _ _ _ (0, 0) TA0]; rfl⟩)
  have n0 : wA.cell? ⟨w.heap.size, 0, none⟩ = some (.int .i64 M) := by rw [cell_of_row wA _ _ _ _ (0, 0) TA0]; rfl
  have n1 : wA.cell? ⟨w.heap.size, 1, none⟩ = some (.slice a (n) (c)) := by rw [cell_of_row wA _ _ _ _ (0, 0) TA0]; rfl
  have hzA : w.heap.size < wA.heap.size := by omega
  clear BA0 ZA0 TA0 TB0
  go_cut [14] (fun s wx => s = .bool true ∧ Hid (Below wA.heap.size wA wx))
  case first =>
    first
      | (go_region_with (go_at_call 49; refine (s_l2Good M _ _ _ l _ (H.out.below (bstep BA.out (by go_grown))) hn).mono ?_; rintro e w5 ⟨rfl, hb5⟩; rw [HG.out]))
      | fail
    all_goals (go_wp2_with fail; go_meet)
    all_goals refine ⟨rfl, ?_⟩
    all_goals exact bstep ((Below.refl _ _).drew : Below wA.heap.size wA wA.drew) (by assumption)
  case rest =>
    obtain ⟨rfl, hx⟩ := hcut
    have TC := hid ((hx.out.block (w.heap.size + 1) (by have := ZA.out; omega)).trans TB.out)
    have HB := hid (bstep BA.out hx.out)
    have y0 := cell_of_row wc _ 0 _ _ (0, 0) TC.out
    have y1 := cell_of_row wc _ 1 _ _ (0, 0) TC.out
    simp only [List.getElem?_toArray, List.getElem?_cons_zero, List.getElem?_cons_succ] at y0 y1
    have f0 := frozen_of_row wc _ 0 _ _ TC.out
    have f1 := frozen_of_row wc _ 1 _ _ TC.out
    have e7 := heap_setCell_same _ _ 1 _ _ (.slice none 0 0) (heap_setCell_same _ _ 0 _ _ (.int .i64 0) TC.out)
    have u0 := cell_of_row _ _ 0 _ _ (0, 0) e7
    have u1 := cell_of_row _ _ 1 _ _ (0, 0) e7
    simp only [List.setIfInBounds_toArray, List.set_cons_zero, List.set_cons_succ, List.getElem?_toArray, List.getElem?_cons_zero, List.getElem?_cons_succ] at u0 u1
    clear e7
    go_wp2
    refine bodyPost_ret (v := .tuple #[.agg #[.int .i64 0, .slice none 0 0], .bool false]) (by simp [results, Try.results44, go_sem, *]) rfl ⟨_, _, _, rfl, OwnS.nil _ _, ?_⟩
    exact (HB.out.setCell (by show w.heap.size ≤ w.heap.size + 1; omega) _).setCell (by show w.heap.size ≤ w.heap.size + 1; omega) _

set_option maxRecDepth 100000 in
set_option maxHeartbeats 4000000 in
theorem s_SpanningTree (N : Int) (a : Option Addr) (n c : Nat) (l : List Pip) (w : World) (h : QAt w a n l) (hn : n ≤ 1048576) (x : Int) (R : List Pip) (b : Bool) (hR : spanR N l = (x, R, b)) :
    Calls Try.prog 44 #[.agg #[.int .i64 N, .slice a n c]] w fun e w' => ∃ a' m c', e = .returned (.tuple #[.agg #[.int .i64 x, .slice a' m c'], .bool b]) ∧ OwnQ w' w.heap.size (.slice a' m c') R ∧ Below w.heap.size w w' := by
  have H := hid h
  have hl := h.1
  clear h
  cases h1 : goodNet N l
  · rw [spanR_no (.inl h1)] at hR
    cases hR
    exact s_SpanningTree_no N a n c l w H.out hn h1
  · have hN := (goodNet_get h1).1
    obtain ⟨M, rfl⟩ : ∃ M : Nat, N = M := ⟨N.toNat, by omega⟩
    have HG := hid h1
    have hM : M ≤ 8 := by omega
    have hM1 : 1 ≤ M := by omega
    by_cases hq : (reachL M l 0 1).length = M
    · have e0 : spanR M l = ((M : Int), span l n, true) := by
        unfold spanR
        rw [if_pos ⟨h1, by omega⟩, hl]
      rw [e0] at hR
      cases hR
      have HQ := hid hq
      clear h1 hl hq e0 hN
      go_enter Try.func44, Try.ntmps44
      go_upto_region 1 with fail
      have BA0 : Below w.heap.size w ((w.alloc (.cells #[.int .i64 M, .slice a (n) (c)] 31)).alloc (.cells #[.int .i64 0, .slice none 0 0] 31)) := by go_grown
      have ZA0 : ((w.alloc (.cells #[.int .i64 M, .slice a (n) (c)] 31)).alloc (.cells #[.int .i64 0, .slice none 0 0] 31)).heap.size = w.heap.size + 2 := by simp
      have TB0 : ((w.alloc (.cells #[.int .i64 M, .slice a (n) (c)] 31)).alloc (.cells #[.int .i64 0, .slice none 0 0] 31)).heap[w.heap.size + 1]? = some (.cells #[.int .i64 0, .slice none 0 0] 31 (0, 0)) := last_new _ _ _ (by simp)
      have TA0 : ((w.alloc (.cells #[.int .i64 M, .slice a (n) (c)] 31)).alloc (.cells #[.int .i64 0, .slice none 0 0] 31)).heap[w.heap.size]? = some (.cells #[.int .i64 M, .slice a (n) (c)] 31 (0, 0)) := mid_new _ _ _ _ rfl
      generalize (w.alloc (.cells #[.int .i64 M, .slice a (n) (c)] 31)).alloc (.cells #[.int .i64 0, .slice none 0 0] 31) = wA at *
      have BA := hid BA0
      have ZA := hid ZA0
      have TA := hid TA0
      have TB := hid TB0
      have KA := hid (show ∀ wx, Below wA.heap.size wA wx → (wx.cell? ⟨w.heap.size, 0, none⟩ = some (.int .i64 M) ∧ wx.cell? ⟨w.heap.size, 1, none⟩ = some (.slice a (n) (c))) from fun wx hb => ⟨by rw [hb.cell (p := ⟨w.heap.size, 0, none⟩) (by show w.heap.size < _; omega), cell_of_row wA _ _ _ _ (0, 0) TA0]; rfl, by rw [hb.cell (p := ⟨w.heap.size, 1, none⟩) (by show w.heap.size < _; omega), cell_of_row wA _ _ _ _ (0, 0) TA0]; rfl⟩)
      have n0 : wA.cell? ⟨w.heap.size, 0, none⟩ = some (.int .i64 M) := by rw [cell_of_row wA _ _ _ _ (0, 0) TA0]; rfl
      have n1 : wA.cell? ⟨w.heap.size, 1, none⟩ = some (.slice a (n) (c)) := by rw [cell_of_row wA _ _ _ _ (0, 0) TA0]; rfl
      have hzA : w.heap.size < wA.heap.size := by omega
      clear BA0 ZA0 TA0 TB0
      go_cut [14] (fun s wx => s = .bool false ∧ Hid (Below wA.heap.size wA wx))
      case first =>
        go_region_held3 (fun w' => (w'.cell? ⟨w.heap.size, 0, none⟩ = some (.int .i64 M) ∧ w'.cell? ⟨w.heap.size, 1, none⟩ = some (.slice a n c))) (first | go_keep | exact KA.out _ (by first | assumption | go_grown))
          (first | (go_at_call 49; refine (s_l2Good M _ _ _ l _ (H.out.below (bstep BA.out (by go_grown))) hn).mono ?_; rintro e w5 ⟨rfl, hb5⟩; rw [HG.out]; have hbA : Below wA.heap.size wA w5 := (bstep ((Below.refl _ _).drew : Below wA.heap.size wA wA.drew) hb5)) | (go_at_call 88; refine (s_l2Reached M 1 _ _ _ l _ (H.out.below (bstep BA.out hbA)) HG.out ⟨by omega, by omega⟩).mono ?_; rintro e w6 ⟨g6, c6, rfl, -, hb6⟩; rw [HQ.out]; have hbB : Below wA.heap.size wA w6 := bstep hbA hb6))
        all_goals (go_wp2_with fail; go_meet)
        all_goals exact ⟨rfl, hbB⟩
      case rest =>
        obtain ⟨rfl, hx⟩ := hcut
        have HB := hid (bstep BA.out hx.out)
        obtain ⟨n0, n1⟩ := KA.out _ hx.out
        have hzc : w.heap.size < wc.heap.size := World.block_lt_of_cell? wc _ n0
        go_wp2_with fail
        refine (s_l8Spanning M _ _ _ l _ (H.out.below HB.out) HG.out).mono ?_
        rintro e w4 ⟨a4, m4, c4, rfl, ho4, hb4⟩
        have TC := hid (((hb4.block (w.heap.size + 1) (by have := hx.out.size; have := ZA.out; omega)).trans (hx.out.block (w.heap.size + 1) (by have := ZA.out; omega))).trans TB.out)
        have HB4 := hid (bstep HB.out hb4)
        have HO4 := hid ho4
        have hzc2 : w.heap.size + 1 < wc.heap.size := by have := hx.out.size; have := ZA.out; omega
        clear ho4 hb4 hx
        have y0 := cell_of_row w4 _ 0 _ _ (0, 0) TC.out
        have y1 := cell_of_row w4 _ 1 _ _ (0, 0) TC.out
        simp only [List.getElem?_toArray, List.getElem?_cons_zero, List.getElem?_cons_succ] at y0 y1
        have f0 := frozen_of_row w4 _ 0 _ _ TC.out
        have f1 := frozen_of_row w4 _ 1 _ _ TC.out
        have e7 := heap_setCell_same _ _ 1 _ _ (.slice a4 m4 c4) (heap_setCell_same _ _ 0 _ _ (.int .i64 M) TC.out)
        have u0 := cell_of_row _ _ 0 _ _ (0, 0) e7
        have u1 := cell_of_row _ _ 1 _ _ (0, 0) e7
        simp only [List.setIfInBounds_toArray, List.set_cons_zero, List.set_cons_succ, List.getElem?_toArray, List.getElem?_cons_zero, List.getElem?_cons_succ] at u0 u1
        clear e7
        go_wp2
        refine bodyPost_ret (v := .tuple #[.agg #[.int .i64 M, .slice a4 m4 c4], .bool true]) (by simp [results, Try.results44, go_sem, *]) rfl ⟨_, _, _, rfl, ((HO4.out.far (by show w.heap.size + 1 < _; omega)).far (by show w.heap.size + 1 < _; omega)).mono (by omega), ?_⟩
        exact (HB4.out.setCell (by show w.heap.size ≤ w.heap.size + 1; omega) _).setCell (by show w.heap.size ≤ w.heap.size + 1; omega) _
    · obtain ⟨q, hQ⟩ : ∃ q, (reachL M l 0 1).length = q := ⟨_, rfl⟩
      rw [spanR_no (.inr (by omega))] at hR
      cases hR
      rw [hQ] at hq
      have e2 : ((q : Int) != (M : Int)) = true := by simp; omega
      have HQ := hid hQ
      clear h1 hl hq hQ hN
      go_enter Try.func44, Try.ntmps44
      go_upto_region 1 with fail
      have BA0 : Below w.heap.size w ((w.alloc (.cells #[.int .i64 M, .slice a (n) (c)] 31)).alloc (.cells #[.int .i64 0, .slice none 0 0] 31)) := by go_grown
      have ZA0 : ((w.alloc (.cells #[.int .i64 M, .slice a (n) (c)] 31)).alloc (.cells #[.int .i64 0, .slice none 0 0] 31)).heap.size = w.heap.size + 2 := by simp
      have TB0 : ((w.alloc (.cells #[.int .i64 M, .slice a (n) (c)] 31)).alloc (.cells #[.int .i64 0, .slice none 0 0] 31)).heap[w.heap.size + 1]? = some (.cells #[.int .i64 0, .slice none 0 0] 31 (0, 0)) := last_new _ _ _ (by simp)
      have TA0 : ((w.alloc (.cells #[.int .i64 M, .slice a (n) (c)] 31)).alloc (.cells #[.int .i64 0, .slice none 0 0] 31)).heap[w.heap.size]? = some (.cells #[.int .i64 M, .slice a (n) (c)] 31 (0, 0)) := mid_new _ _ _ _ rfl
      generalize (w.alloc (.cells #[.int .i64 M, .slice a (n) (c)] 31)).alloc (.cells #[.int .i64 0, .slice none 0 0] 31) = wA at *
      have BA := hid BA0
      have ZA := hid ZA0
      have TA := hid TA0
      have TB := hid TB0
      have KA := hid (show ∀ wx, Below wA.heap.size wA wx → (wx.cell? ⟨w.heap.size, 0, none⟩ = some (.int .i64 M) ∧ wx.cell? ⟨w.heap.size, 1, none⟩ = some (.slice a (n) (c))) from fun wx hb => ⟨by rw [hb.cell (p := ⟨w.heap.size, 0, none⟩) (by show w.heap.size < _; omega), cell_of_row wA _ _ _ _ (0, 0) TA0]; rfl, by rw [hb.cell (p := ⟨w.heap.size, 1, none⟩) (by show w.heap.size < _; omega), cell_of_row wA _ _ _ _ (0, 0) TA0]; rfl⟩)
      have n0 : wA.cell? ⟨w.heap.size, 0, none⟩ = some (.int .i64 M) := by rw [cell_of_row wA _ _ _ _ (0, 0) TA0]; rfl
      have n1 : wA.cell? ⟨w.heap.size, 1, none⟩ = some (.slice a (n) (c)) := by rw [cell_of_row wA _ _ _ _ (0, 0) TA0]; rfl
      have hzA : w.heap.size < wA.heap.size := by omega
      clear BA0 ZA0 TA0 TB0
      go_cut [14] (fun s wx => s = .bool true ∧ Hid (Below wA.heap.size wA wx))
      case first =>
        go_region_held3 (fun w' => (w'.cell? ⟨w.heap.size, 0, none⟩ = some (.int .i64 M) ∧ w'.cell? ⟨w.heap.size, 1, none⟩ = some (.slice a n c))) (first | go_keep | exact KA.out _ (by first | assumption | go_grown))
          (first | (go_at_call 49; refine (s_l2Good M _ _ _ l _ (H.out.below (bstep BA.out (by go_grown))) hn).mono ?_; rintro e w5 ⟨rfl, hb5⟩; rw [HG.out]; have hbA : Below wA.heap.size wA w5 := (bstep ((Below.refl _ _).drew : Below wA.heap.size wA wA.drew) hb5)) | (go_at_call 88; refine (s_l2Reached M 1 _ _ _ l _ (H.out.below (bstep BA.out hbA)) HG.out ⟨by omega, by omega⟩).mono ?_; rintro e w6 ⟨g6, c6, rfl, -, hb6⟩; rw [HQ.out]; have hbB : Below wA.heap.size wA w6 := bstep hbA hb6))
        all_goals (go_wp2_with fail; go_meet)
        all_goals exact ⟨rfl, hbB⟩
      case rest =>
        obtain ⟨rfl, hx⟩ := hcut
        have TC := hid ((hx.out.block (w.heap.size + 1) (by have := ZA.out; omega)).trans TB.out)
        have HB := hid (bstep BA.out hx.out)
        have y0 := cell_of_row wc _ 0 _ _ (0, 0) TC.out
        have y1 := cell_of_row wc _ 1 _ _ (0, 0) TC.out
        simp only [List.getElem?_toArray, List.getElem?_cons_zero, List.getElem?_cons_succ] at y0 y1
        have f0 := frozen_of_row wc _ 0 _ _ TC.out
        have f1 := frozen_of_row wc _ 1 _ _ TC.out
        have e7 := heap_setCell_same _ _ 1 _ _ (.slice none 0 0) (heap_setCell_same _ _ 0 _ _ (.int .i64 0) TC.out)
        have u0 := cell_of_row _ _ 0 _ _ (0, 0) e7
        have u1 := cell_of_row _ _ 1 _ _ (0, 0) e7
        simp only [List.setIfInBounds_toArray, List.set_cons_zero, List.set_cons_succ, List.getElem?_toArray, List.getElem?_cons_zero, List.getElem?_cons_succ] at u0 u1
        clear e7
        go_wp2
        refine bodyPost_ret (v := .tuple #[.agg #[.int .i64 0, .slice none 0 0], .bool false]) (by simp [results, Try.results44, go_sem, *]) rfl ⟨_, _, _, rfl, OwnS.nil _ _, ?_⟩
        exact (HB.out.setCell (by show w.heap.size ≤ w.heap.size + 1; omega) _).setCell (by show w.heap.size ≤ w.heap.size + 1; omega) _

theorem s_SpanningTree' (N : Int) (a : Option Addr) (n c : Nat) (l : List Pip) (w : World) (h : QAt w a n l) (hn : n ≤ 1048576) (x : Int) (R : List Pip) (b : Bool) (hR : spanR N l = (x, R, b)) :
    Calls Try.prog 44 #[.agg #[.int .i64 N, .slice a n c]] w fun e w' => ∃ a' c', e = .returned (.tuple #[.agg #[.int .i64 x, .slice a' R.length c'], .bool b]) ∧ OwnQ w' w.heap.size (.slice a' R.length c') R ∧ Below w.heap.size w w' :=
  (s_SpanningTree N a n c l w h hn x R b hR).mono fun _ _ ⟨a', m, c', he, ho, hb⟩ => by
    have := OwnS.len ho
    subst this
    exact ⟨a', c', he, ho, hb⟩

end Go.Proofs.Ytheaagbffphdmaa
