/-
  Texts of this claim, joined: SpanS, VNet, NetG2, NetG3.
-/
import Derived.Test.YtlnhikhpkcgegaaLo4
import Derived.Test.YtlnhikhpkcgegaaLo18
import Derived.Test.YtlnhikhpkcgegaaLo21
/-
  SpanningTree, in the reference.
-/
set_option linter.unusedVariables false
set_option linter.unusedSimpArgs false
namespace Go.Proofs.Ytlnhikhpkcgegaa
open Go.RowKit

set_option maxRecDepth 100000 in
set_option maxHeartbeats 4000000 in
theorem s_SpanningTree_no (M : Int) (a : Option Addr) (n c : Nat) (l : List Pip) (w : World) (h : QAt w a n l) (hn : n ≤ 1048576) (h1 : goodNet M l = false) :
    Calls Try.prog 27 #[.agg #[.int .i64 M, .slice a n c]] w fun e w' => ∃ a' m c', e = .returned (.tuple #[.agg #[.int .i64 0, .slice a' m c'], .bool false]) ∧ OwnQ w' w.heap.size (.slice a' m c') [] ∧ Below w.heap.size w w' := by
  have H := hid h
  have HG := hid h1
  clear h h1
  go_enter Try.func27, Try.ntmps27
  go_upto_region 1 with fail
  have BA0 : Below w.heap.size w ((w.alloc (.cells #[.int .i64 M, .slice a (n) (c)] 26)).alloc (.cells #[.int .i64 0, .slice none 0 0] 26)) := by go_grown
  have ZA0 : ((w.alloc (.cells #[.int .i64 M, .slice a (n) (c)] 26)).alloc (.cells #[.int .i64 0, .slice none 0 0] 26)).heap.size = w.heap.size + 2 := by simp
  have TB0 : ((w.alloc (.cells #[.int .i64 M, .slice a (n) (c)] 26)).alloc (.cells #[.int .i64 0, .slice none 0 0] 26)).heap[w.heap.size + 1]? = some (.cells #[.int .i64 0, .slice none 0 0] 26 (0, 0)) := last_new _ _ _ (by simp)
  have TA0 : ((w.alloc (.cells #[.int .i64 M, .slice a (n) (c)] 26)).alloc (.cells #[.int .i64 0, .slice none 0 0] 26)).heap[w.heap.size]? = some (.cells #[.int .i64 M, .slice a (n) (c)] 26 (0, 0)) := mid_new _ _ _ _ rfl
  generalize (w.alloc (.cells #[.int .i64 M, .slice a (n) (c)] 26)).alloc (.cells #[.int .i64 0, .slice none 0 0] 26) = wA at *
  have BA := hid BA0
  have ZA := hid ZA0
  have TA := hid TA0
  have TB := hid TB0
  have KA := hid (show ∀ wx, Below wA.heap.size wA wx → (wx.cell? ⟨w.heap.size, 0, none⟩ = some (.int .i64 M) ∧ wx.cell? ⟨w.heap.size, 1, none⟩ = some (.slice a (n) (c))) from fun wx hb => ⟨by rw [hb.cell (p := ⟨w.heap.size, 0, none⟩) (by show w.heap.size < _; omega), cell_of_row wA _ _ _ _ (0, 0) TA0]; rfl, by rw [hb.cell (p := ⟨w.heap.size, 1, none⟩) (by show w.heap.size < _; omega), cell_of_row wA _ _ _ _ (0, 0) TA0]; rfl⟩)
  have n0 : wA.cell? ⟨w.heap.size, 0, none⟩ = some (.int .i64 M) := by rw [cell_of_row wA _ _ _ _ (0, 0) TA0]; rfl
  have n1 : wA.cell? ⟨w.heap.size, 1, none⟩ = some (.slice a (n) (c)) := by rw [cell_of_row wA _ _ _ _ (0, 0) TA0]; rfl
  have hzA : w.heap.size < wA.heap.size := by omega
  clear BA0 ZA0 TA0 TB0
  go_cut [14] (fun s wx => s = .bool true ∧ Hid (Below wA.heap.size wA wx))
  case first =>
    first
      | (go_region_with (go_at_call 89; refine (s_l2Good M _ _ _ l _ (H.out.below (bstep BA.out (by go_grown))) hn).mono ?_; rintro e w5 ⟨rfl, hb5⟩; rw [HG.out]))
      | fail
    all_goals (go_wp2_with fail; go_meet)
    all_goals refine ⟨rfl, ?_⟩
    all_goals exact bstep ((Below.refl _ _).drew : Below wA.heap.size wA wA.drew) (by assumption)
  case rest =>
    obtain ⟨rfl, hx⟩ := hcut
    have TC := hid ((hx.out.block (w.heap.size + 1) (by have := ZA.out; omega)).trans TB.out)
    have HB := hid (bstep BA.out hx.out)
    have y0 := cell_of_row wc _ 0 _ _ (0, 0) TC.out
    have y1 := cell_of_row wc _ 1 _ _ (0, 0) TC.out
    simp only [List.getElem?_toArray, List.getElem?_cons_zero, List.getElem?_cons_succ] at y0 y1
    have f0 := frozen_of_row wc _ 0 _ _ TC.out
    have f1 := frozen_of_row wc _ 1 _ _ TC.out
    have e7 := heap_setCell_same _ _ 1 _ _ (.slice none 0 0) (heap_setCell_same _ _ 0 _ _ (.int .i64 0) TC.out)
    have u0 := cell_of_row _ _ 0 _ _ (0, 0) e7
    have u1 := cell_of_row _ _ 1 _ _ (0, 0) e7
    simp only [List.setIfInBounds_toArray, List.set_cons_zero, List.set_cons_succ, List.getElem?_toArray, List.getElem?_cons_zero, List.getElem?_cons_succ] at u0 u1
    clear e7
    go_wp2
    refine bodyPost_ret (v := .tuple #[.agg #[.int .i64 0, .slice none 0 0], .bool false]) (by simp [results, Try.results27, go_sem, *]) rfl ⟨_, _, _, rfl, OwnS.nil _ _, ?_⟩
    exact (HB.out.setCell (by show w.heap.size ≤ w.heap.size + 1; omega) _).setCell (by show w.heap.size ≤ w.heap.size + 1; omega) _

set_option maxRecDepth 100000 in
set_option maxHeartbeats 4000000 in
theorem s_SpanningTree (N : Int) (a : Option Addr) (n c : Nat) (l : List Pip) (w : World) (h : QAt w a n l) (hn : n ≤ 1048576) (x : Int) (R : List Pip) (b : Bool) (hR : spanR N l = (x, R, b)) :
    Calls Try.prog 27 #[.agg #[.int .i64 N, .slice a n c]] w fun e w' => ∃ a' m c', e = .returned (.tuple #[.agg #[.int .i64 x, .slice a' m c'], .bool b]) ∧ OwnQ w' w.heap.size (.slice a' m c') R ∧ Below w.heap.size w w' := by
  have H := hid h
  have hl := h.1
  clear h
  cases h1 : goodNet N l
  · rw [spanR_no (.inl h1)] at hR
    cases hR
    exact s_SpanningTree_no N a n c l w H.out hn h1
  · have hN := (goodNet_get h1).1
    obtain ⟨M, rfl⟩ : ∃ M : Nat, N = M := ⟨N.toNat, by omega⟩
    have HG := hid h1
    have hM : M ≤ 8 := by omega
    have hM1 : 1 ≤ M := by omega
    by_cases hq : (reachL M l 0 1).length = M
    · have e0 : spanR M l = ((M : Int), span l n, true) := by
        unfold spanR
        rw [if_pos ⟨h1, by omega⟩, hl]
      rw [e0] at hR
      cases hR
      have HQ := hid hq
      clear h1 hl hq e0 hN
      go_enter Try.func27, Try.ntmps27
      go_upto_region 1 with fail
      have BA0 : Below w.heap.size w ((w.alloc (.cells #[.int .i64 M, .slice a (n) (c)] 26)).alloc (.cells #[.int .i64 0, .slice none 0 0] 26)) := by go_grown
      have ZA0 : ((w.alloc (.cells #[.int .i64 M, .slice a (n) (c)] 26)).alloc (.cells #[.int .i64 0, .slice none 0 0] 26)).heap.size = w.heap.size + 2 := by simp
      have TB0 : ((w.alloc (.cells #[.int .i64 M, .slice a (n) (c)] 26)).alloc (.cells #[.int .i64 0, .slice none 0 0] 26)).heap[w.heap.size + 1]? = some (.cells #[.int .i64 0, .slice none 0 0] 26 (0, 0)) := last_new _ _ _ (by simp)
      have TA0 : ((w.alloc (.cells #[.int .i64 M, .slice a (n) (c)] 26)).alloc (.cells #[.int .i64 0, .slice none 0 0] 26)).heap[w.heap.size]? = some (.cells #[.int .i64 M, .slice a (n) (c)] 26 (0, 0)) := mid_new _ _ _ _ rfl
      generalize (w.alloc (.cells #[.int .i64 M, .slice a (n) (c)] 26)).alloc (.cells #[.int .i64 0, .slice none 0 0] 26) = wA at *
      have BA := hid BA0
      have ZA := hid ZA0
      have TA := hid TA0
      have TB := hid TB0
      have KA := hid (show ∀ wx, Below wA.heap.size wA wx → (wx.cell? ⟨w.heap.size, 0, none⟩ = some (.int .i64 M) ∧ wx.cell? ⟨w.heap.size, 1, none⟩ = some (.slice a (n) (c))) from fun wx hb => ⟨by rw [hb.cell (p := ⟨w.heap.size, 0, none⟩) (by show w.heap.size < _; omega), cell_of_row wA _ _ _ _ (0, 0) TA0]; rfl, by rw [hb.cell (p := ⟨w.heap.size, 1, none⟩) (by show w.heap.size < _; omega), cell_of_row wA _ _ _ _ (0, 0) TA0]; rfl⟩)
      have n0 : wA.cell? ⟨w.heap.size, 0, none⟩ = some (.int .i64 M) := by rw [cell_of_row wA _ _ _ _ (0, 0) TA0]; rfl
      have n1 : wA.cell? ⟨w.heap.size, 1, none⟩ = some (.slice a (n) (c)) := by rw [cell_of_row wA _ _ _ _ (0, 0) TA0]; rfl
      have hzA : w.heap.size < wA.heap.size := by omega
      clear BA0 ZA0 TA0 TB0
      go_cut [14] (fun s wx => s = .bool false ∧ Hid (Below wA.heap.size wA wx))
      case first =>
        go_region_held3 (fun w' => (w'.cell? ⟨w.heap.size, 0, none⟩ = some (.int .i64 M) ∧ w'.cell? ⟨w.heap.size, 1, none⟩ = some (.slice a n c))) (first | go_keep | exact KA.out _ (by first | assumption | go_grown))
          (first | (go_at_call 89; refine (s_l2Good M _ _ _ l _ (H.out.below (bstep BA.out (by go_grown))) hn).mono ?_; rintro e w5 ⟨rfl, hb5⟩; rw [HG.out]; have hbA : Below wA.heap.size wA w5 := (bstep ((Below.refl _ _).drew : Below wA.heap.size wA wA.drew) hb5)) | (go_at_call 95; refine (s_l2Reached M 1 _ _ _ l _ (H.out.below (bstep BA.out hbA)) HG.out ⟨by omega, by omega⟩).mono ?_; rintro e w6 ⟨g6, c6, rfl, -, hb6⟩; rw [HQ.out]; have hbB : Below wA.heap.size wA w6 := bstep hbA hb6))
        all_goals (go_wp2_with fail; go_meet)
        all_goals exact ⟨rfl, hbB⟩
      case rest =>
        obtain ⟨rfl, hx⟩ := hcut
        have HB := hid (bstep BA.out hx.out)
        obtain ⟨n0, n1⟩ := KA.out _ hx.out
        have hzc : w.heap.size < wc.heap.size := World.block_lt_of_cell? wc _ n0
        go_wp2_with fail
        refine (s_l8Spanning M _ _ _ l _ (H.out.below HB.out) HG.out).mono ?_
        rintro e w4 ⟨a4, m4, c4, rfl, ho4, hb4⟩
        have TC := hid (((hb4.block (w.heap.size + 1) (by have := hx.out.size; have := ZA.out; omega)).trans (hx.out.block (w.heap.size + 1) (by have := ZA.out; omega))).trans TB.out)
        have HB4 := hid (bstep HB.out hb4)
        have HO4 := hid ho4
        have hzc2 : w.heap.size + 1 < wc.heap.size := by have := hx.out.size; have := ZA.out; omega
        clear ho4 hb4 hx
        have y0 := cell_of_row w4 _ 0 _ _ (0, 0) TC.out
        have y1 := cell_of_row w4 _ 1 _ _ (0, 0) TC.out
        simp only [List.getElem?_toArray, List.getElem?_cons_zero, List.getElem?_cons_succ] at y0 y1
        have f0 := frozen_of_row w4 _ 0 _ _ TC.out
        have f1 := frozen_of_row w4 _ 1 _ _ TC.out
        have e7 := heap_setCell_same _ _ 1 _ _ (.slice a4 m4 c4) (heap_setCell_same _ _ 0 _ _ (.int .i64 M) TC.out)
        have u0 := cell_of_row _ _ 0 _ _ (0, 0) e7
        have u1 := cell_of_row _ _ 1 _ _ (0, 0) e7
        simp only [List.setIfInBounds_toArray, List.set_cons_zero, List.set_cons_succ, List.getElem?_toArray, List.getElem?_cons_zero, List.getElem?_cons_succ] at u0 u1
        clear e7
        go_wp2
        refine bodyPost_ret (v := .tuple #[.agg #[.int .i64 M, .slice a4 m4 c4], .bool true]) (by simp [results, Try.results27, go_sem, *]) rfl ⟨_, _, _, rfl, ((HO4.out.far (by show w.heap.size + 1 < _; omega)).far (by show w.heap.size + 1 < _; omega)).mono (by omega), ?_⟩
        exact (HB4.out.setCell (by show w.heap.size ≤ w.heap.size + 1; omega) _).setCell (by show w.heap.size ≤ w.heap.size + 1; omega) _
    · obtain ⟨q, hQ⟩ : ∃ q, (reachL M l 0 1).length = q := ⟨_, rfl⟩
      rw [spanR_no (.inr (by omega))] at hR
      cases hR
      rw [hQ] at hq
      have e2 : ((q : Int) != (M : Int)) = true := by simp; omega
      have HQ := hid hQ
      clear h1 hl hq hQ hN
      go_enter Try.func27, Try.ntmps27
      go_upto_region 1 with fail
      have BA0 : Below w.heap.size w ((w.alloc (.cells #[.int .i64 M, .slice a (n) (c)] 26)).alloc (.cells #[.int .i64 0, .slice none 0 0] 26)) := by go_grown
      have ZA0 : ((w.alloc (.cells #[.int .i64 M, .slice a (n) (c)] 26)).alloc (.cells #[.int .i64 0, .slice none 0 0] 26)).heap.size = w.heap.size + 2 := by simp
      have TB0 : ((w.alloc (.cells #[.int .i64 M, .slice a (n) (c)] 26)).alloc (.cells #[.int .i64 0, .slice none 0 0] 26)).heap[w.heap.size + 1]? = some (.cells #[.int .i64 0, .slice none 0 0] 26 (0, 0)) := last_new _ _ _ (by simp)
      have TA0 : ((w.alloc (.cells #[.int .i64 M, .slice a (n) (c)] 26)).alloc (.cells #[.int .i64 0, .slice none 0 0] 26)).heap[w.heap.size]? = some (.cells #[.int .i64 M, .slice a (n) (c)] 26 (0, 0)) := mid_new _ _ _ _ rfl
      generalize (w.alloc (.cells #[.int .i64 M, .slice a (n) (c)] 26)).alloc (.cells #[.int .i64 0, .slice none 0 0] 26) = wA at *
      have BA := hid BA0
      have ZA := hid ZA0
      have TA := hid TA0
      have TB := hid TB0
      have KA := hid (show ∀ wx, Below wA.heap.size wA wx → (wx.cell? ⟨w.heap.size, 0, none⟩ = some (.int .i64 M) ∧ wx.cell? ⟨w.heap.size, 1, none⟩ = some (.slice a (n) (c))) from fun wx hb => ⟨by rw [hb.cell (p := ⟨w.heap.size, 0, none⟩) (by show w.heap.size < _; omega), cell_of_row wA _ _ _ _ (0, 0) TA0]; rfl, by rw [hb.cell (p := ⟨w.heap.size, 1, none⟩) (by show w.heap.size < _; omega), cell_of_row wA _ _ _ _ (0, 0) TA0]; rfl⟩)
      have n0 : wA.cell? ⟨w.heap.size, 0, none⟩ = some (.int .i64 M) := by rw [cell_of_row wA _ _ _ _ (0, 0) TA0]; rfl
      have n1 : wA.cell? ⟨w.heap.size, 1, none⟩ = some (.slice a (n) (c)) := by rw [cell_of_row wA _ _ _ _ (0, 0) TA0]; rfl
      have hzA : w.heap.size < wA.heap.size := by omega
      clear BA0 ZA0 TA0 TB0
      go_cut [14] (fun s wx => s = .bool true ∧ Hid (Below wA.heap.size wA wx))
      case first =>
        go_region_held3 (fun w' => (w'.cell? ⟨w.heap.size, 0, none⟩ = some (.int .i64 M) ∧ w'.cell? ⟨w.heap.size, 1, none⟩ = some (.slice a n c))) (first | go_keep | exact KA.out _ (by first | assumption | go_grown))
          (first | (go_at_call 89; refine (s_l2Good M _ _ _ l _ (H.out.below (bstep BA.out (by go_grown))) hn).mono ?_; rintro e w5 ⟨rfl, hb5⟩; rw [HG.out]; have hbA : Below wA.heap.size wA w5 := (bstep ((Below.refl _ _).drew : Below wA.heap.size wA wA.drew) hb5)) | (go_at_call 95; refine (s_l2Reached M 1 _ _ _ l _ (H.out.below (bstep BA.out hbA)) HG.out ⟨by omega, by omega⟩).mono ?_; rintro e w6 ⟨g6, c6, rfl, -, hb6⟩; rw [HQ.out]; have hbB : Below wA.heap.size wA w6 := bstep hbA hb6))
        all_goals (go_wp2_with fail; go_meet)
        all_goals exact ⟨rfl, hbB⟩
      case rest =>
        obtain ⟨rfl, hx⟩ := hcut
        have TC := hid ((hx.out.block (w.heap.size + 1) (by have := ZA.out; omega)).trans TB.out)
        have HB := hid (bstep BA.out hx.out)
        have y0 := cell_of_row wc _ 0 _ _ (0, 0) TC.out
        have y1 := cell_of_row wc _ 1 _ _ (0, 0) TC.out
        simp only [List.getElem?_toArray, List.getElem?_cons_zero, List.getElem?_cons_succ] at y0 y1
        have f0 := frozen_of_row wc _ 0 _ _ TC.out
        have f1 := frozen_of_row wc _ 1 _ _ TC.out
        have e7 := heap_setCell_same _ _ 1 _ _ (.slice none 0 0) (heap_setCell_same _ _ 0 _ _ (.int .i64 0) TC.out)
        have u0 := cell_of_row _ _ 0 _ _ (0, 0) e7
        have u1 := cell_of_row _ _ 1 _ _ (0, 0) e7
        simp only [List.setIfInBounds_toArray, List.set_cons_zero, List.set_cons_succ, List.getElem?_toArray, List.getElem?_cons_zero, List.getElem?_cons_succ] at u0 u1
        clear e7
        go_wp2
        refine bodyPost_ret (v := .tuple #[.agg #[.int .i64 0, .slice none 0 0], .bool false]) (by simp [results, Try.results27, go_sem, *]) rfl ⟨_, _, _, rfl, OwnS.nil _ _, ?_⟩
        exact (HB.out.setCell (by show w.heap.size ≤ w.heap.size + 1; omega) _).setCell (by show w.heap.size ≤ w.heap.size + 1; omega) _

theorem s_SpanningTree' (N : Int) (a : Option Addr) (n c : Nat) (l : List Pip) (w : World) (h : QAt w a n l) (hn : n ≤ 1048576) (x : Int) (R : List Pip) (b : Bool) (hR : spanR N l = (x, R, b)) :
    Calls Try.prog 27 #[.agg #[.int .i64 N, .slice a n c]] w fun e w' => ∃ a' c', e = .returned (.tuple #[.agg #[.int .i64 x, .slice a' R.length c'], .bool b]) ∧ OwnQ w' w.heap.size (.slice a' R.length c') R ∧ Below w.heap.size w w' :=
  (s_SpanningTree N a n c l w h hn x R b hR).mono fun _ _ ⟨a', m, c', he, ho, hb⟩ => by
    have := OwnS.len ho
    subst this
    exact ⟨a', c', he, ho, hb⟩

end Go.Proofs.Ytlnhikhpkcgegaa

/-
  Equal networks: the laws' own helpers.
-/
set_option linter.unusedVariables false
set_option linter.unusedSimpArgs false
namespace Go.Proofs.Ytlnhikhpkcgegaa
open Go.RowKit

set_option maxHeartbeats 2000000 in
theorem l_vPipes_same (a b : Option Addr) (n c d : Nat) (l : List Pip) (w : World) (h : QAt w a n l) (h' : QAt w b n l) (hn : n ≤ 1048576) :
    Calls Try.prog 92 #[.slice a n c, .slice b n d] w fun e w' => e = .returned (.bool true) ∧ Below w.heap.size w w' := by
  have H := hid h
  have H' := hid h'
  clear h h'
  go_enter Try.func92, Try.ntmps92
  go_wp2
  go_loopg [5] n (fun g i wr => ∃ k : Nat, k ≤ n ∧ g = n - k ∧ i = .int .i64 k ∧ Hid (Below w.heap.size w wr))
  case atStart => exact ⟨0, Nat.zero_le _, rfl, rfl, hid (Below.refl _ _)⟩
  case round =>
    obtain ⟨k, hk, rfl, rfl, hh⟩ := hrel
    by_cases hlt : k < n
    · have hlti : (k : Int) < (n : Int) := by omega
      have hki : (0 : Int) ≤ (k : Int) := by omega
      obtain ⟨b0, off0, rfl, hb0, x0, x1, x2, x3⟩ := QAt.get (H.out.below hh.out) k hlt
      obtain ⟨b1, off1, rfl, hb1, y0, y1, y2, y3⟩ := QAt.get (H'.out.below hh.out) k hlt
      have hwk : IntKind.i64.wrap ((k : Int) + 1) = ((k + 1 : Nat) : Int) := by rw [IntWalk.i64_in _ (by omega)]; omega
      go_upto_region 6 with fail
      go_quiet (fail)
      clear x0 x1 x2 x3 y0 y1 y2 y3
      go_wp2
      go_roundg (n - (k + 1))
      case rel => exact ⟨k + 1, by omega, rfl, rfl, hid (bstep hh.out (bdraws _))⟩
      case measure => omega
    · obtain rfl : n = k := by omega
      go_wp2
      go_ret
      exact ⟨rfl, hh.out⟩

theorem l_vNetwork_same (N : Int) (a b : Option Addr) (n c d : Nat) (l : List Pip) (w : World) (h : QAt w a n l) (h' : QAt w b n l) (hn : n ≤ 1048576) :
    Calls Try.prog 24 #[.agg #[.int .i64 N, .slice a n c], .agg #[.int .i64 N, .slice b n d]] w fun e w' => e = .returned (.bool true) ∧ Below w.heap.size w w' := by
  have H := hid h
  have H' := hid h'
  clear h h'
  go_enter Try.func24, Try.ntmps24
  go_wp2_with fail
  refine (l_vPipes_same _ _ _ _ _ l _ (H.out.below (by go_grown)) (H'.out.below (by go_grown)) hn).mono ?_
  rintro e w1 ⟨rfl, hb1⟩
  go_wp2
  go_ret
  exact ⟨rfl, bstep (by go_grown) hb1⟩

end Go.Proofs.Ytlnhikhpkcgegaa

/-
  Networks: HeaviestPipe and SteepestPipe of the program.
-/
set_option linter.unusedVariables false
set_option linter.unusedSimpArgs false
namespace Go.Proofs.Ytlnhikhpkcgegaa
open Go.RowKit

theorem heavyR_no {N : Int} {l : List Pip} {fs : List Int} (h : goodNet N l = false ∨ goodFl l.length fs = false ∨ l.length = 0) : heavyR N l fs = (0, 0, false) := by
  unfold heavyR
  rw [if_neg]
  rintro ⟨h1, h2, h3⟩
  rcases h with h | h | h
  · rw [h1] at h; cases h
  · rw [h2] at h; cases h
  · exact h3 (List.eq_nil_of_length_eq_zero h)
theorem steepR_no {N : Int} {l : List Pip} {fs : List Int} (h : goodNet N l = false ∨ goodFl l.length fs = false ∨ l.length = 0) : steepR N l fs = (0, 0, false) := by
  unfold steepR
  rw [if_neg]
  rintro ⟨h1, h2, h3⟩
  rcases h with h | h | h
  · rw [h1] at h; cases h
  · rw [h2] at h; cases h
  · exact h3 (List.eq_nil_of_length_eq_zero h)

set_option maxRecDepth 100000 in
set_option maxHeartbeats 2000000 in
theorem i_HeaviestPipe (N : Int) (a b : Option Addr) (n c m d : Nat) (l : List Pip) (fs : List Int) (w : World) (h : QAt w a n l) (h' : IntsAt w b m fs) (hn : n ≤ 1048576) (hm : m ≤ 1048576) (x y : Int) (z : Bool) (hR : heavyR N l fs = (x, y, z)) :
    Calls Try.prog 29 #[.agg #[.int .i64 N, .slice a n c], .slice b m d] w fun e w' => e = .returned (.tuple #[.int .i64 x, .int .i64 y, .bool z]) ∧ Below w.heap.size w w' := by
  have hl := h.1
  have H := hid h
  have H' := hid h'
  clear h h'
  by_cases h12 : (goodNet N l && goodFl n fs) = true
  · have HF := hid h12
    have h2 := ((Bool.and_eq_true _ _).mp h12)
    have hmn : m = n := by have := (goodFl_iff.1 h2.2).1; have := H'.out.1; omega
    subst hmn
    by_cases h3 : m = 0
    · rw [heavyR_no (.inr (.inr (by omega)))] at hR
      cases hR
      have hm0 : ¬ 0 < m := by omega
      clear h12 h2 hl
      subst h3
      go_enter Try.func29, Try.ntmps29
      go_wp2_with fail
      refine (i_isFlowing N _ _ _ _ _ _ l fs _ (H.out.below (by go_grown)) (H'.out.below (by go_grown)) (by omega) (by omega)).mono ?_
      rintro e w1 ⟨rfl, hb1⟩
      rw [HF.out]
      obtain ⟨hc_w1, hf_w1⟩ := bcell hb1
      have hz_w1_0 : w.heap.size < w1.heap.size := by have := hb1.size; simp only [World.size_alloc] at this; omega
      go_wp2
      go_ret3
      exact ⟨rfl, bstep (by go_grown) hb1⟩
    · have HG := hid h2.1
      have HS := hid h2.2
      have HB8 := hid (goodFl_iff.1 h2.2).2
      have e0 : heavyR N l fs = ((gp l (fun k => max (fs[k]?.getD 0) (-(fs[k]?.getD 0))) m).1, (gp l (fun k => max (fs[k]?.getD 0) (-(fs[k]?.getD 0))) m).2, true) := by
        unfold heavyR
        rw [if_pos ⟨h2.1, by rw [hl]; exact h2.2, fun e => h3 (by rw [e] at hl; exact hl.symm)⟩, hl]
      rw [e0] at hR
      cases hR
      have hm0 : 0 < m := by omega
      clear h12 h2 hl e0 h3
      go_enter Try.func29, Try.ntmps29
      go_wp2_with fail
      refine (i_isFlowing N _ _ _ _ _ _ l fs _ (H.out.below (by go_grown)) (H'.out.below (by go_grown)) (by omega) (by omega)).mono ?_
      rintro e w1 ⟨rfl, hb1⟩
      rw [HF.out]
      have hz := hb1.size
      simp only [World.size_alloc] at hz
      have hz0 : w.heap.size < w1.heap.size := by omega
      have hz1 : w.heap.size + 1 < w1.heap.size := by omega
      have HB1 := hid (bstep (by go_grown) hb1 : Below w.heap.size w w1)
      have T0 := (hb1.block w.heap.size (by simp <;> omega)).trans (mid_new w _ _ _ rfl)
      have T1 := (hb1.block (w.heap.size + 1) (by simp)).trans (last_newG (w.alloc _) _ _ (by simp))
      have n0 : w1.cell? ⟨w.heap.size, 0, none⟩ = some (.int .i64 N) := by rw [cell_of_row w1 _ _ _ _ (0, 0) T0]; rfl
      have n1 : w1.cell? ⟨w.heap.size, 1, none⟩ = some (.slice a m c) := by rw [cell_of_row w1 _ _ _ _ (0, 0) T0]; rfl
      have f0 : w1.cell? ⟨w.heap.size + 1, 0, none⟩ = some (.slice b m d) := by rw [cell_of_row w1 _ _ _ _ (0, 0) T1]; rfl
      have N0 := hid n0
      have N1 := hid n1
      have F0 := hid f0
      clear T0 T1 hb1 hz
      go_wp2_with fail
      refine (i_greatestPipe 98 (#[.pointer (some ⟨w.heap.size + 1, 0, none⟩)]) (fun k => fs[k]?.getD 0) enters_HeaviestPipe N _ m _ l _ (H.out.below HB1.out) (by omega) (fun k hk => by have := HB8.out _ (getD_mem' (l := fs) (k := k) (by have := H'.out.1; omega)); omega) (fun k w' hk hb => i_HeaviestPipe1 b m d (w.heap.size + 1) k fs w' ((H'.out.below HB1.out).below hb) hk ((hb.cell hz1).trans F0.out))).mono ?_
      rintro e w2 ⟨rfl, hb2⟩
      go_wp2
      go_ret3
      exact ⟨rfl, bstep HB1.out hb2⟩
  · have HF := hid (show (goodNet N l && goodFl n fs) = false by simpa using h12)
    have e0 : heavyR N l fs = (0, 0, false) := by
      apply heavyR_no
      cases h1 : goodNet N l
      · exact .inl rfl
      · have := HF.out; rw [h1] at this; rw [hl]; exact .inr (.inl this)
    rw [e0] at hR
    cases hR
    clear h12 hl e0
    go_enter Try.func29, Try.ntmps29
    go_wp2_with fail
    refine (i_isFlowing N _ _ _ _ _ _ l fs _ (H.out.below (by go_grown)) (H'.out.below (by go_grown)) (by omega) (by omega)).mono ?_
    rintro e w1 ⟨rfl, hb1⟩
    rw [HF.out]
    go_wp2
    go_ret3
    exact ⟨rfl, bstep (by go_grown) hb1⟩
set_option maxRecDepth 100000 in
set_option maxHeartbeats 2000000 in
theorem i_SteepestPipe (N : Int) (a b : Option Addr) (n c m d : Nat) (l : List Pip) (fs : List Int) (w : World) (h : QAt w a n l) (h' : IntsAt w b m fs) (hn : n ≤ 1048576) (hm : m ≤ 1048576) (x y : Int) (z : Bool) (hR : steepR N l fs = (x, y, z)) :
    Calls Try.prog 47 #[.agg #[.int .i64 N, .slice a n c], .slice b m d] w fun e w' => e = .returned (.tuple #[.int .i64 x, .int .i64 y, .bool z]) ∧ Below w.heap.size w w' := by
  have hl := h.1
  have H := hid h
  have H' := hid h'
  clear h h'
  by_cases h12 : (goodNet N l && goodFl n fs) = true
  · have HF := hid h12
    have h2 := ((Bool.and_eq_true _ _).mp h12)
    have hmn : m = n := by have := (goodFl_iff.1 h2.2).1; have := H'.out.1; omega
    subst hmn
    by_cases h3 : m = 0
    · rw [steepR_no (.inr (.inr (by omega)))] at hR
      cases hR
      have hm0 : ¬ 0 < m := by omega
      clear h12 h2 hl
      subst h3
      go_enter Try.func47, Try.ntmps47
      go_wp2_with fail
      refine (i_isFlowing N _ _ _ _ _ _ l fs _ (H.out.below (by go_grown)) (H'.out.below (by go_grown)) (by omega) (by omega)).mono ?_
      rintro e w1 ⟨rfl, hb1⟩
      rw [HF.out]
      obtain ⟨hc_w1, hf_w1⟩ := bcell hb1
      have hz_w1_0 : w.heap.size < w1.heap.size := by have := hb1.size; simp only [World.size_alloc] at this; omega
      go_wp2
      go_ret3
      exact ⟨rfl, bstep (by go_grown) hb1⟩
    · have HG := hid h2.1
      have HS := hid h2.2
      have HB8 := hid (goodFl_iff.1 h2.2).2
      have e0 : steepR N l fs = ((gp l (fun k => max (loss l fs k) (-(loss l fs k))) m).1, (gp l (fun k => max (loss l fs k) (-(loss l fs k))) m).2, true) := by
        unfold steepR
        rw [if_pos ⟨h2.1, by rw [hl]; exact h2.2, fun e => h3 (by rw [e] at hl; exact hl.symm)⟩, hl]
      rw [e0] at hR
      cases hR
      have hm0 : 0 < m := by omega
      clear h12 h2 hl e0 h3
      go_enter Try.func47, Try.ntmps47
      go_wp2_with fail
      refine (i_isFlowing N _ _ _ _ _ _ l fs _ (H.out.below (by go_grown)) (H'.out.below (by go_grown)) (by omega) (by omega)).mono ?_
      rintro e w1 ⟨rfl, hb1⟩
      rw [HF.out]
      have hz := hb1.size
      simp only [World.size_alloc] at hz
      have hz0 : w.heap.size < w1.heap.size := by omega
      have hz1 : w.heap.size + 1 < w1.heap.size := by omega
      have HB1 := hid (bstep (by go_grown) hb1 : Below w.heap.size w w1)
      have T0 := (hb1.block w.heap.size (by simp <;> omega)).trans (mid_new w _ _ _ rfl)
      have T1 := (hb1.block (w.heap.size + 1) (by simp)).trans (last_newG (w.alloc _) _ _ (by simp))
      have n0 : w1.cell? ⟨w.heap.size, 0, none⟩ = some (.int .i64 N) := by rw [cell_of_row w1 _ _ _ _ (0, 0) T0]; rfl
      have n1 : w1.cell? ⟨w.heap.size, 1, none⟩ = some (.slice a m c) := by rw [cell_of_row w1 _ _ _ _ (0, 0) T0]; rfl
      have f0 : w1.cell? ⟨w.heap.size + 1, 0, none⟩ = some (.slice b m d) := by rw [cell_of_row w1 _ _ _ _ (0, 0) T1]; rfl
      have N0 := hid n0
      have N1 := hid n1
      have F0 := hid f0
      clear T0 T1 hb1 hz
      go_wp2_with fail
      refine (i_greatestPipe 125 (#[.pointer (some ⟨w.heap.size, 0, none⟩), .pointer (some ⟨w.heap.size + 1, 0, none⟩)]) (fun k => loss l fs k) enters_SteepestPipe N _ m _ l _ (H.out.below HB1.out) (by omega) (fun k hk => by have := HB8.out _ (getD_mem' (l := fs) (k := k) (by have := H'.out.1; omega)); have h2 := (goodNet_pipe HG.out (k := k) (by have := H.out.1; omega)).2.2.2.2; have := (loss_fit h2 this).2; unfold loss; omega) (fun k w' hk hb => i_SteepestPipe1 N a b m c d w.heap.size (w.heap.size + 1) k l fs w' ((H.out.below HB1.out).below hb) ((H'.out.below HB1.out).below hb) HG.out HS.out hk ((hb.cell hz0).trans N0.out) ((hb.cell hz0).trans N1.out) ((hb.cell hz1).trans F0.out))).mono ?_
      rintro e w2 ⟨rfl, hb2⟩
      go_wp2
      go_ret3
      exact ⟨rfl, bstep HB1.out hb2⟩
  · have HF := hid (show (goodNet N l && goodFl n fs) = false by simpa using h12)
    have e0 : steepR N l fs = (0, 0, false) := by
      apply steepR_no
      cases h1 : goodNet N l
      · exact .inl rfl
      · have := HF.out; rw [h1] at this; rw [hl]; exact .inr (.inl this)
    rw [e0] at hR
    cases hR
    clear h12 hl e0
    go_enter Try.func47, Try.ntmps47
    go_wp2_with fail
    refine (i_isFlowing N _ _ _ _ _ _ l fs _ (H.out.below (by go_grown)) (H'.out.below (by go_grown)) (by omega) (by omega)).mono ?_
    rintro e w1 ⟨rfl, hb1⟩
    rw [HF.out]
    go_wp2
    go_ret3
    exact ⟨rfl, bstep (by go_grown) hb1⟩

end Go.Proofs.Ytlnhikhpkcgegaa

/-
  Networks: HeaviestPipe and SteepestPipe of the reference.
-/
set_option linter.unusedVariables false
set_option linter.unusedSimpArgs false
namespace Go.Proofs.Ytlnhikhpkcgegaa
open Go.RowKit

abbrev ab (fs : List Int) (k : Nat) : Int := max (fs[k]?.getD 0) (-(fs[k]?.getD 0))
theorem ab_pos (fs : List Int) (k : Nat) : 0 ≤ ab fs k := by unfold ab; omega

set_option maxRecDepth 100000 in
set_option maxHeartbeats 4000000 in
theorem s_HeaviestPipe (N : Int) (a b : Option Addr) (n c m d : Nat) (l : List Pip) (fs : List Int) (w : World) (h : QAt w a n l) (h' : IntsAt w b m fs) (hn : n ≤ 1048576) (hm : m ≤ 1048576) (x y : Int) (z : Bool) (hR : heavyR N l fs = (x, y, z)) :
    Calls Try.prog 30 #[.agg #[.int .i64 N, .slice a n c], .slice b m d] w fun e w' => e = .returned (.tuple #[.int .i64 x, .int .i64 y, .bool z]) ∧ Below w.heap.size w w' := by
  have hl := h.1
  have H := hid h
  have H' := hid h'
  clear h h'
  cases h1 : goodNet N l
  · have HG := hid h1
    rw [heavyR_no (.inl h1)] at hR
    cases hR
    clear h1 hl
    go_enter Try.func30, Try.ntmps30
    go_wp2_with fail
    refine (s_l2Good N _ _ _ l _ (H.out.below (by go_grown)) (by omega)).mono ?_
    rintro e w1 ⟨rfl, hb1⟩
    rw [HG.out]
    obtain ⟨hc_w1, hf_w1⟩ := bcell hb1
    have hz_w1_0 : w.heap.size < w1.heap.size := by have := hb1.size; simp only [World.size_alloc] at this; omega
    have HB1 := hid (bstep (by go_grown) hb1 : Below w.heap.size w w1)
    go_wp2
    go_ret3
    exact ⟨rfl, HB1.out⟩
  · cases h2 : goodFl n fs
    · have HG := hid h1
      have HD := hid h2
      rw [heavyR_no (.inr (.inl (by rw [hl]; exact h2)))] at hR
      cases hR
      clear h1 h2 hl
      go_enter Try.func30, Try.ntmps30
      go_wp2_with fail
      refine (s_l2Good N _ _ _ l _ (H.out.below (by go_grown)) (by omega)).mono ?_
      rintro e w1 ⟨rfl, hb1⟩
      rw [HG.out]
      obtain ⟨hc_w1, hf_w1⟩ := bcell hb1
      have hz_w1_0 : w.heap.size < w1.heap.size := by have := hb1.size; simp only [World.size_alloc] at this; omega
      have HB1 := hid (bstep (by go_grown) hb1 : Below w.heap.size w w1)
      go_wp2_with fail
      refine (s_l8Flows N _ _ n _ _ _ fs _ (H'.out.below HB1.out) hm).mono ?_
      rintro e w2 ⟨rfl, hb2⟩
      rw [HD.out]
      go_wp2
      go_ret3
      exact ⟨rfl, bstep HB1.out hb2⟩
    · have hmn : m = n := by have := (goodFl_iff.1 h2).1; have := H'.out.1; omega
      subst hmn
      have HG := hid h1
      have HD := hid h2
      by_cases h3 : m = 0
      · rw [heavyR_no (.inr (.inr (by omega)))] at hR
        cases hR
        clear h1 h2 hl
        subst h3
        go_enter Try.func30, Try.ntmps30
        go_wp2_with fail
        refine (s_l2Good N _ _ _ l _ (H.out.below (by go_grown)) (by omega)).mono ?_
        rintro e w1 ⟨rfl, hb1⟩
        rw [HG.out]
        obtain ⟨hc_w1, hf_w1⟩ := bcell hb1
        have hz_w1_0 : w.heap.size < w1.heap.size := by have := hb1.size; simp only [World.size_alloc] at this; omega
        have HB1 := hid (bstep (by go_grown) hb1 : Below w.heap.size w w1)
        go_wp2_with fail
        refine (s_l8Flows N _ _ 0 _ _ _ fs _ (H'.out.below HB1.out) (by omega)).mono ?_
        rintro e w2 ⟨rfl, hb2⟩
        rw [HD.out]
        go_wp2
        go_ret3
        exact ⟨rfl, bstep HB1.out hb2⟩
      ·
        have e0 : heavyR N l fs = ((pp l (bi (ab fs) m)).1, ab fs (bi (ab fs) m), true) := by
          unfold heavyR
          rw [if_pos ⟨h1, by rw [hl]; exact h2, fun e => h3 (by rw [e] at hl; exact hl.symm)⟩, hl]
          have := gp_bi l (ab fs) (ab_pos fs) m (by omega)
          rw [show gp l (fun k => max (fs[k]?.getD 0) (-(fs[k]?.getD 0))) m = gp l (ab fs) m from rfl, this]
        rw [e0] at hR
        cases hR
        have hm0 : 0 < m := by omega
        have hmb : ((m : Int) == 0) = false := by simp; omega
        have HB8 := hid (goodFl_iff.1 h2).2
        have hm10 : m ≤ 10 := by have := (goodNet_get h1).2.1; omega
        have HL := hid hl
        have HL' := hid H'.out.1
        obtain ⟨b0, off0, rfl, hbw, -, -, -, -⟩ := QAt.get H.out 0 hm0
        obtain ⟨b1, off1, rfl, hbw1, -⟩ := H'.out.2 0 hm0
        clear h1 h2 h3 hl e0
        go_enter Try.func30, Try.ntmps30
        go_wp2_with fail
        refine (s_l2Good N _ _ _ l _ (H.out.below (by go_grown)) (by omega)).mono ?_
        rintro e w1 ⟨rfl, hb1⟩
        rw [HG.out]
        obtain ⟨hc_w1, hf_w1⟩ := bcell hb1
        have hz_w1_0 : w.heap.size < w1.heap.size := by have := hb1.size; simp only [World.size_alloc] at this; omega
        have HB1 := hid (bstep (by go_grown) hb1 : Below w.heap.size w w1)
        go_wp2_with fail
        refine (s_l8Flows N _ _ m _ _ _ fs _ (H'.out.below HB1.out) (by omega)).mono ?_
        rintro e w2 ⟨rfl, hb2⟩
        rw [HD.out]
        have hz_w2_0 : w.heap.size < w2.heap.size := by have := hb2.size; omega
        have HB2 := hid (bstep HB1.out hb2)
        have n0 : w2.cell? ⟨w.heap.size, 0, none⟩ = some (.int .i64 N) := by rw [(bcell hb2).1 _ _ hz_w1_0, hc_w1 _ _ (by simp)]; exact cell_of_row _ _ 0 _ _ (0, 0) (heap_alloc_new _ _)
        have n1 := ((bcell hb2).1 w.heap.size 1 hz_w1_0).trans ((hc_w1 _ _ (by simp)).trans (cell_of_row _ _ 1 _ _ (0, 0) (heap_alloc_new _ _)))
        simp only [List.getElem?_toArray, List.getElem?_cons_succ, List.getElem?_cons_zero] at n1
        have N1 := hid n1
        clear hb1 hb2 hc_w1 hf_w1 n0
        go_wp2
        go_loopg [7, 8] (m - 1) (fun g t7 i wr => ∃ k : Nat, 1 ≤ k ∧ k ≤ m ∧ g = m - k ∧ i = .int .i64 k ∧ t7 = .int .i64 (bi (ab fs) k) ∧ Hid (Below w.heap.size w wr ∧ wr.cell? ⟨w.heap.size, 1, none⟩ = some (.slice (some ⟨b0, off0, none⟩) m c)))
        case atStart => exact ⟨1, by omega, by omega, rfl, rfl, by simp [bi], hid ⟨HB2.out, N1.out⟩⟩
        case round =>
          obtain ⟨k, hk1, hk, rfl, rfl, rfl, hB⟩ := hrel
          have hbi := bi_lt (ab fs) k hk1
          obtain ⟨_, _, e2, _, hcb⟩ := (H'.out.below hB.out.1).2 (bi (ab fs) k) (by omega)
          cases e2
          have hq2 := HB8.out _ (getD_mem' (l := fs) (k := bi (ab fs) k) (by have := HL'.out; omega))
          by_cases hlt : k < m
          · obtain ⟨_, _, e1, _, hck⟩ := (H'.out.below hB.out.1).2 k hlt
            cases e1
            have hq1 := HB8.out _ (getD_mem' (l := fs) (k := k) (by have := HL'.out; omega))
            have hbm : bi (ab fs) k < m := by omega
            have X := hid (show Below w.heap.size w wr.drew ∧ wr.drew.cell? ⟨w.heap.size, 1, none⟩ = some (.slice (some ⟨b0, off0, none⟩) m c) ∧ wr.drew.cell? ⟨b1, off1 + k, none⟩ = some (.int .i64 (fs[k]?.getD 0)) ∧ wr.drew.cell? ⟨b1, off1 + bi (ab fs) k, none⟩ = some (.int .i64 (fs[bi (ab fs) k]?.getD 0)) from ⟨hB.out.1.drew, hB.out.2, hck, hcb⟩)
            clear hck hcb
            by_cases hgt : ab fs (bi (ab fs) k) < ab fs k
            · have E := hid (show bi (ab fs) (k + 1) = k by simp [bi, hgt])
              have hgt' : max (fs[bi (ab fs) k]?.getD 0) (-(fs[bi (ab fs) k]?.getD 0)) < max (fs[k]?.getD 0) (-(fs[k]?.getD 0)) := hgt
              clear hgt
              go_upto_region 7 with fail
              refine wp_region_calm (C := (fun w' => Below w.heap.size w w' ∧ w'.cell? ⟨w.heap.size, 1, none⟩ = some (.slice (some ⟨b0, off0, none⟩) m c) ∧ w'.cell? ⟨b1, off1 + k, none⟩ = some (.int .i64 (fs[k]?.getD 0)) ∧ w'.cell? ⟨b1, off1 + bi (ab fs) k, none⟩ = some (.int .i64 (fs[bi (ab fs) k]?.getD 0)))) (by kernel_rfl) (by kernel_rfl) (X.out) ?_
              repeat
                first
                  | go_big_quiet_skip
                  | (go_big_quiet_want
                     first
                       | (unfold Oper.quiet
                          apply Exists.intro
                          refine ⟨fun wq hq => ?_, ?_⟩
                          · (try dsimp only at hq
                             simp [go_sem, Oper.quietAt, Oper.quietUpon, BigFrame.eval_const, BigFrame.eval_global, BigFrame.eval_func, ↓IntWalk.iteOmega, *]
                             first | done | rfl | (refine calm_same hq (s_l8Abs _ _ (by omega)) rfl))
                          simp only [Act.put, List.setIfInBounds_toArray, List.set_cons_succ, List.set_cons_zero]
                          go_big_quiet_on))
              refine wpQuiet_nil ?_
              intro wc hcalm
              try dsimp only at hcalm
              have HB := hid (show Below w.heap.size w wc ∧ wc.cell? ⟨w.heap.size, 1, none⟩ = some (.slice (some ⟨b0, off0, none⟩) m c) from ⟨hcalm.1, hcalm.2.1⟩)
              clear hcalm
              go_wp2
              go_roundg (m - (k + 1))
              case rel => first | exact ⟨k + 1, by omega, by omega, rfl, by go_num, by rw [E.out], HB⟩ | ((repeat apply Exists.intro); exact ⟨⟨k + 1, by omega, by omega, rfl, by go_num, by rw [E.out], HB⟩, rfl⟩)
              case measure => omega
            · have E := hid (show bi (ab fs) (k + 1) = bi (ab fs) k by simp [bi, hgt])
              have hgt' : ¬ max (fs[bi (ab fs) k]?.getD 0) (-(fs[bi (ab fs) k]?.getD 0)) < max (fs[k]?.getD 0) (-(fs[k]?.getD 0)) := hgt
              clear hgt
              go_upto_region 7 with fail
              refine wp_region_calm (C := (fun w' => Below w.heap.size w w' ∧ w'.cell? ⟨w.heap.size, 1, none⟩ = some (.slice (some ⟨b0, off0, none⟩) m c) ∧ w'.cell? ⟨b1, off1 + k, none⟩ = some (.int .i64 (fs[k]?.getD 0)) ∧ w'.cell? ⟨b1, off1 + bi (ab fs) k, none⟩ = some (.int .i64 (fs[bi (ab fs) k]?.getD 0)))) (by kernel_rfl) (by kernel_rfl) (X.out) ?_
              repeat
                first
                  | go_big_quiet_skip
                  | (go_big_quiet_want
                     first
                       | (unfold Oper.quiet
                          apply Exists.intro
                          refine ⟨fun wq hq => ?_, ?_⟩
                          · (try dsimp only at hq
                             simp [go_sem, Oper.quietAt, Oper.quietUpon, BigFrame.eval_const, BigFrame.eval_global, BigFrame.eval_func, ↓IntWalk.iteOmega, *]
                             first | done | rfl | (refine calm_same hq (s_l8Abs _ _ (by omega)) rfl))
                          simp only [Act.put, List.setIfInBounds_toArray, List.set_cons_succ, List.set_cons_zero]
                          go_big_quiet_on))
              refine wpQuiet_nil ?_
              intro wc hcalm
              try dsimp only at hcalm
              have HB := hid (show Below w.heap.size w wc ∧ wc.cell? ⟨w.heap.size, 1, none⟩ = some (.slice (some ⟨b0, off0, none⟩) m c) from ⟨hcalm.1, hcalm.2.1⟩)
              clear hcalm
              go_wp2
              go_roundg (m - (k + 1))
              case rel => first | exact ⟨k + 1, by omega, by omega, rfl, by go_num, by rw [E.out], HB⟩ | ((repeat apply Exists.intro); exact ⟨⟨k + 1, by omega, by omega, rfl, by go_num, by rw [E.out], HB⟩, rfl⟩)
              case measure => omega
          · obtain rfl : m = k := by omega
            obtain ⟨_, _, e1, _, x0, -, -, -⟩ := QAt.get (H.out.below hB.out.1) (bi (ab fs) m) hbi
            cases e1
            have X := hid (show Below w.heap.size w wr.drew ∧ wr.drew.cell? ⟨w.heap.size, 1, none⟩ = some (.slice (some ⟨b0, off0, none⟩) m c) ∧ wr.drew.cell? ⟨b0, off0 + bi (ab fs) m * 4, none⟩ = some (.int .i64 (pp l (bi (ab fs) m)).1) ∧ wr.drew.cell? ⟨b1, off1 + bi (ab fs) m, none⟩ = some (.int .i64 (fs[bi (ab fs) m]?.getD 0)) from ⟨hB.out.1.drew, hB.out.2, x0, hcb⟩)
            clear x0 hcb
            go_upto_region 9 with fail
            refine wp_region_calm (C := (fun w' => Below w.heap.size w w' ∧ w'.cell? ⟨w.heap.size, 1, none⟩ = some (.slice (some ⟨b0, off0, none⟩) m c) ∧ w'.cell? ⟨b0, off0 + bi (ab fs) m * 4, none⟩ = some (.int .i64 (pp l (bi (ab fs) m)).1) ∧ w'.cell? ⟨b1, off1 + bi (ab fs) m, none⟩ = some (.int .i64 (fs[bi (ab fs) m]?.getD 0)))) (by kernel_rfl) (by kernel_rfl) (X.out) ?_
            repeat
              first
                | go_big_quiet_skip
                | (go_big_quiet_want
                   first
                     | (unfold Oper.quiet
                        apply Exists.intro
                        refine ⟨fun wq hq => ?_, ?_⟩
                        · (try dsimp only at hq
                           simp [go_sem, Oper.quietAt, Oper.quietUpon, BigFrame.eval_const, BigFrame.eval_global, BigFrame.eval_func, ↓IntWalk.iteOmega, *]
                           first | done | rfl | (refine calm_same hq (s_l8Abs _ _ (by omega)) rfl))
                        simp only [Act.put, List.setIfInBounds_toArray, List.set_cons_succ, List.set_cons_zero]
                        go_big_quiet_on))
            refine wpQuiet_nil ?_
            intro wc hcalm
            try dsimp only at hcalm
            have HC := hid hcalm.1
            clear hcalm
            go_wp2
            go_ret3
            exact ⟨rfl, HC.out⟩

end Go.Proofs.Ytlnhikhpkcgegaa

