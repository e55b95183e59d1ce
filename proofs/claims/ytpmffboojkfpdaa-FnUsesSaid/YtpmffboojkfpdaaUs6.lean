/-
  Texts of this claim, joined: DrawU.
-/
import Derived.Test.YtpmffboojkfpdaaUs5
/-
  The draws of profiles with bases and hours.
-/
set_option linter.unusedVariables false
set_option linter.unusedSimpArgs false
namespace Go.Proofs.Ytpmffboojkfpdaa
open Go.RowKit

set_option maxRecDepth 100000 in
set_option maxHeartbeats 8000000 in
theorem s_DrawStorageFor (a0 : Option Addr) (n0 c0 : Nat) (w : World) (h : BytesAt w a0 n0) :
    Calls Try.prog 41 #[.slice a0 n0 c0] w fun e w' => ∃ (a : Option Addr) (n c : Nat) (L : List Int) (q : Int), e = .returned (.tuple #[.agg #[.slice a n c], .int .i64 q]) ∧ (IntsAt w' a n L ∧ n ≤ 24) ∧ Below w.heap.size w w' := by
  have H := hid h
  clear h
  go_enter Try.func41, Try.ntmps41
  go_upto_region 2 with fail
  have C0 := hid (Cur.start (c := c0) (g := w.heap.size + 1) (H.out.below (by go_grown : Below w.heap.size w (w.alloc (.cells #[.slice none 0 0] 26)))) (by simp))
  have R0 : ((w.alloc (.cells #[.slice none 0 0] 26)).alloc (.cells #[.slice a0 n0 c0, .int .i64 0, .int .u64 0] 85)).heap[w.heap.size]? = some (.cells #[.slice none 0 0] 26 (0, 0)) := (Below.heap_alloc _ _ _ (by simp)).trans (heap_alloc_new _ _)
  have B0 : Below w.heap.size w ((w.alloc (.cells #[.slice none 0 0] 26)).alloc (.cells #[.slice a0 n0 c0, .int .i64 0, .int .u64 0] 85)) := by go_grown
  have hz0 : ((w.alloc (.cells #[.slice none 0 0] 26)).alloc (.cells #[.slice a0 n0 c0, .int .i64 0, .int .u64 0] 85)).heap.size = w.heap.size + 1 + 1 := by simp
  generalize (w.alloc (.cells #[.slice none 0 0] 26)).alloc (.cells #[.slice a0 n0 c0, .int .i64 0, .int .u64 0] 85) = w0 at *
  go_wp2_with fail
  refine (c_profile _ 0 _ C0.out (by omega)).mono ?_
  rintro e w1 ⟨⟨a, n, c, rfl, hn, L, hI, hfr⟩, hc1, hg1⟩
  have hz1 := hg1.size
  have S1 := hid (show DB w (w1.alloc (.cells #[.slice a n c] 26)) (w.heap.size + 1) 100 w1.heap.size w.heap.size a n c L from
    ⟨hc1.below (by go_grown), (B0.grown hg1 (by omega) (fun q e => by have := Option.some.inj e; omega)).alloc (by omega) _, hI.below (by go_grown), heap_alloc_new _ _,
      (Below.heap_alloc _ _ _ (by omega)).trans ((hg1.block w.heap.size (by omega) (fun e => by have := Option.some.inj e; omega)).trans R0), by omega, by omega, by omega, fun b o e => by have := hfr b o e; omega⟩)
  have hpr : w1.heap.size ≠ w.heap.size := by omega
  clear C0 R0 B0 hI hfr hc1 hg1
  go_upto_region 3 with fail
  generalize w1.alloc (.cells #[.slice a n c] 26) = w2 at *
  generalize w1.heap.size = pb at *
  have m0 := S1.out.cell
  refine wp_region_noPanic ?_
  refine wp_region_held_drew (S := (fun w' => w'.cell? ⟨pb, 0, none⟩ = some (.slice a n c))) (by kernel_rfl) (by exact m0) (fun hHeld => ?_)
  refine wpAnyH_take' (i := 0) (v := ?_) rfl (by kernel_rfl) (by kernel_rfl) (by kernel_rfl) (fun _ _ _ h => h) (Or.inl ⟨by rfl, ?_⟩) (by assumption) ?_
  rotate_left
  · (intro w' hSw; (try dsimp only at hSw); go_simp; all_goals with_reducible rfl)
  try simp only [Act.put, List.setIfInBounds_toArray, List.set_cons_zero, List.set_cons_succ]
  refine wpAnyH_take' (i := 1) (v := ?_) rfl (by kernel_rfl) (by kernel_rfl) (by kernel_rfl) (fun _ _ _ h => h) (Or.inl ⟨by rfl, ?_⟩) (by assumption) ?_
  rotate_left
  · (intro w' hSw; (try dsimp only at hSw); go_simp; all_goals with_reducible rfl)
  try simp only [Act.put, List.setIfInBounds_toArray, List.set_cons_zero, List.set_cons_succ]
  refine wpAnyH_ready (rs := [2]) (by kernel_rfl) (by simp) ?_
  refine allReadyH_cons' rfl (fun Kn hKn => ?_) AllReadyH.nil
  go_simp
  go_at_call 94
  refine (c_base _ 100 _ (by exact (S1.out.below ((Below.refl _ _).drew)).cur) (by omega)).mono ?_
  rintro e w3 ⟨⟨q, rfl⟩, hc, hg⟩
  have S3 := hid ((S1.out.below ((Below.refl _ _).drew)).step hc hg)
  clear hc hg
  refine hKn.out _ _ (S3.out.cell) (fun hHeldN => ?_)
  clear hKn Kn hHeld
  have hHeld := hHeldN
  clear hHeldN
  try simp only [Act.put, List.setIfInBounds_toArray, List.set_cons_zero, List.set_cons_succ]
  have n0 : (w3).cell? ⟨w.heap.size, 0, none⟩ = some (.slice none 0 0) := by rw [cell_of_row _ _ _ _ _ (0, 0) S3.out.res]; rfl
  have g0 := frozen_of_row _ _ 0 _ _ S3.out.res
  have hrz := S3.out.rz
  refine wpAnyH_ready (rs := [3]) (by kernel_rfl) (by simp) ?_
  refine allReadyH_cons' rfl (fun Kn hKn => ?_) AllReadyH.nil
  go_simp
  have DD := hid (S3.out.fin hpr)
  refine hKn.out _ _ (DD.out.box) (fun hHeldN => ?_)
  clear hKn Kn hHeld
  have hHeld := hHeldN
  clear hHeldN
  try simp only [Act.put, List.setIfInBounds_toArray, List.set_cons_zero, List.set_cons_succ]
  clear n0 g0 hrz
  generalize (w3).setCell ⟨w.heap.size, 0, none⟩ (.slice a n c) = w4 at *
  refine wpAnyH_take' (i := 4) (v := ?_) rfl (by kernel_rfl) (by kernel_rfl) (by kernel_rfl) (fun _ _ _ h => h) (Or.inl ⟨by rfl, ?_⟩) (by assumption) ?_
  rotate_left
  · (intro w' hSw; (try dsimp only at hSw); go_simp; all_goals with_reducible rfl)
  try simp only [Act.put, List.setIfInBounds_toArray, List.set_cons_zero, List.set_cons_succ]
  refine wpAnyH_done (by kernel_rfl) ?_ _
  refine NoPanic.normal ?_
  clear hHeld
  go_wp2
  have u0 := cell_of_row _ _ 0 _ _ (0, 0) DD.out.res
  simp only [List.getElem?_toArray, List.getElem?_cons_zero] at u0
  refine bodyPost_ret (v := .tuple #[.agg #[.slice a n c], .int .i64 q]) (by simp [results, Try.results41, go_sem, *]) rfl ⟨a, n, c, L, q, rfl, ⟨DD.out.ia, hn⟩, DD.out.bel⟩

set_option maxRecDepth 100000 in
set_option maxHeartbeats 8000000 in
theorem s_DrawUseAt (a0 : Option Addr) (n0 c0 : Nat) (w : World) (h : BytesAt w a0 n0) :
    Calls Try.prog 46 #[.slice a0 n0 c0] w fun e w' => ∃ (a : Option Addr) (n c : Nat) (L : List Int) (p q : Int), e = .returned (.tuple #[.agg #[.slice a n c], .int .i64 p, .int .i64 q]) ∧ (IntsAt w' a n L ∧ n ≤ 24) ∧ Below w.heap.size w w' := by
  have H := hid h
  clear h
  go_enter Try.func46, Try.ntmps46
  go_upto_region 2 with fail
  have C0 := hid (Cur.start (c := c0) (g := w.heap.size + 1) (H.out.below (by go_grown : Below w.heap.size w (w.alloc (.cells #[.slice none 0 0] 26)))) (by simp))
  have R0 : ((w.alloc (.cells #[.slice none 0 0] 26)).alloc (.cells #[.slice a0 n0 c0, .int .i64 0, .int .u64 0] 85)).heap[w.heap.size]? = some (.cells #[.slice none 0 0] 26 (0, 0)) := (Below.heap_alloc _ _ _ (by simp)).trans (heap_alloc_new _ _)
  have B0 : Below w.heap.size w ((w.alloc (.cells #[.slice none 0 0] 26)).alloc (.cells #[.slice a0 n0 c0, .int .i64 0, .int .u64 0] 85)) := by go_grown
  have hz0 : ((w.alloc (.cells #[.slice none 0 0] 26)).alloc (.cells #[.slice a0 n0 c0, .int .i64 0, .int .u64 0] 85)).heap.size = w.heap.size + 1 + 1 := by simp
  generalize (w.alloc (.cells #[.slice none 0 0] 26)).alloc (.cells #[.slice a0 n0 c0, .int .i64 0, .int .u64 0] 85) = w0 at *
  go_wp2_with fail
  refine (c_profile _ 0 _ C0.out (by omega)).mono ?_
  rintro e w1 ⟨⟨a, n, c, rfl, hn, L, hI, hfr⟩, hc1, hg1⟩
  have hz1 := hg1.size
  have S1 := hid (show DB w (w1.alloc (.cells #[.slice a n c] 26)) (w.heap.size + 1) 100 w1.heap.size w.heap.size a n c L from
    ⟨hc1.below (by go_grown), (B0.grown hg1 (by omega) (fun q e => by have := Option.some.inj e; omega)).alloc (by omega) _, hI.below (by go_grown), heap_alloc_new _ _,
      (Below.heap_alloc _ _ _ (by omega)).trans ((hg1.block w.heap.size (by omega) (fun e => by have := Option.some.inj e; omega)).trans R0), by omega, by omega, by omega, fun b o e => by have := hfr b o e; omega⟩)
  have hpr : w1.heap.size ≠ w.heap.size := by omega
  clear C0 R0 B0 hI hfr hc1 hg1
  go_upto_region 3 with fail
  generalize w1.alloc (.cells #[.slice a n c] 26) = w2 at *
  generalize w1.heap.size = pb at *
  have m0 := S1.out.cell
  refine wp_region_noPanic ?_
  refine wp_region_held_drew (S := (fun w' => w'.cell? ⟨pb, 0, none⟩ = some (.slice a n c))) (by kernel_rfl) (by exact m0) (fun hHeld => ?_)
  refine wpAnyH_take' (i := 0) (v := ?_) rfl (by kernel_rfl) (by kernel_rfl) (by kernel_rfl) (fun _ _ _ h => h) (Or.inl ⟨by rfl, ?_⟩) (by assumption) ?_
  rotate_left
  · (intro w' hSw; (try dsimp only at hSw); go_simp; all_goals with_reducible rfl)
  try simp only [Act.put, List.setIfInBounds_toArray, List.set_cons_zero, List.set_cons_succ]
  refine wpAnyH_take' (i := 1) (v := ?_) rfl (by kernel_rfl) (by kernel_rfl) (by kernel_rfl) (fun _ _ _ h => h) (Or.inl ⟨by rfl, ?_⟩) (by assumption) ?_
  rotate_left
  · (intro w' hSw; (try dsimp only at hSw); go_simp; all_goals with_reducible rfl)
  try simp only [Act.put, List.setIfInBounds_toArray, List.set_cons_zero, List.set_cons_succ]
  refine wpAnyH_take' (i := 3) (v := ?_) rfl (by kernel_rfl) (by kernel_rfl) (by kernel_rfl) (fun _ _ _ h => h) (Or.inl ⟨by rfl, ?_⟩) (by assumption) ?_
  rotate_left
  · (intro w' hSw; (try dsimp only at hSw); go_simp; all_goals with_reducible rfl)
  try simp only [Act.put, List.setIfInBounds_toArray, List.set_cons_zero, List.set_cons_succ]
  refine wpAnyH_ready (rs := [2]) (by kernel_rfl) (by simp) ?_
  refine allReadyH_cons' rfl (fun Kn hKn => ?_) AllReadyH.nil
  go_simp
  go_at_call 94
  refine (c_base _ 100 _ (by exact (S1.out.below ((Below.refl _ _).drew)).cur) (by omega)).mono ?_
  rintro e w3 ⟨⟨p, rfl⟩, hc, hg⟩
  have S3 := hid ((S1.out.below ((Below.refl _ _).drew)).step hc hg)
  clear hc hg
  refine hKn.out _ _ (S3.out.cell) (fun hHeldN => ?_)
  clear hKn Kn hHeld
  have hHeld := hHeldN
  clear hHeldN
  try simp only [Act.put, List.setIfInBounds_toArray, List.set_cons_zero, List.set_cons_succ]
  refine wpAnyH_ready (rs := [4]) (by kernel_rfl) (by simp) ?_
  refine allReadyH_cons' rfl (fun Kn hKn => ?_) AllReadyH.nil
  go_simp
  go_at_call 87
  refine (c_hour6 _ _ _ (by exact S3.out.cur) (by omega)).mono ?_
  rintro e w5 ⟨⟨q, rfl⟩, hc, hg⟩
  have S5 := hid (S3.out.step hc hg)
  clear hc hg
  refine hKn.out _ _ (S5.out.cell) (fun hHeldN => ?_)
  clear hKn Kn hHeld
  have hHeld := hHeldN
  clear hHeldN
  try simp only [Act.put, List.setIfInBounds_toArray, List.set_cons_zero, List.set_cons_succ]
  have n0 : (w5).cell? ⟨w.heap.size, 0, none⟩ = some (.slice none 0 0) := by rw [cell_of_row _ _ _ _ _ (0, 0) S5.out.res]; rfl
  have g0 := frozen_of_row _ _ 0 _ _ S5.out.res
  have hrz := S5.out.rz
  refine wpAnyH_ready (rs := [5]) (by kernel_rfl) (by simp) ?_
  refine allReadyH_cons' rfl (fun Kn hKn => ?_) AllReadyH.nil
  go_simp
  have DD := hid (S5.out.fin hpr)
  refine hKn.out _ _ (DD.out.box) (fun hHeldN => ?_)
  clear hKn Kn hHeld
  have hHeld := hHeldN
  clear hHeldN
  try simp only [Act.put, List.setIfInBounds_toArray, List.set_cons_zero, List.set_cons_succ]
  clear n0 g0 hrz
  generalize (w5).setCell ⟨w.heap.size, 0, none⟩ (.slice a n c) = w6 at *
  refine wpAnyH_take' (i := 6) (v := ?_) rfl (by kernel_rfl) (by kernel_rfl) (by kernel_rfl) (fun _ _ _ h => h) (Or.inl ⟨by rfl, ?_⟩) (by assumption) ?_
  rotate_left
  · (intro w' hSw; (try dsimp only at hSw); go_simp; all_goals with_reducible rfl)
  try simp only [Act.put, List.setIfInBounds_toArray, List.set_cons_zero, List.set_cons_succ]
  refine wpAnyH_take' (i := 7) (v := ?_) rfl (by kernel_rfl) (by kernel_rfl) (by kernel_rfl) (fun _ _ _ h => h) (Or.inl ⟨by rfl, ?_⟩) (by assumption) ?_
  rotate_left
  · (intro w' hSw; (try dsimp only at hSw); go_simp; all_goals with_reducible rfl)
  try simp only [Act.put, List.setIfInBounds_toArray, List.set_cons_zero, List.set_cons_succ]
  refine wpAnyH_done (by kernel_rfl) ?_ _
  refine NoPanic.normal ?_
  clear hHeld
  go_wp2
  have u0 := cell_of_row _ _ 0 _ _ (0, 0) DD.out.res
  simp only [List.getElem?_toArray, List.getElem?_cons_zero] at u0
  refine bodyPost_ret (v := .tuple #[.agg #[.slice a n c], .int .i64 p, .int .i64 q]) (by simp [results, Try.results46, go_sem, *]) rfl ⟨a, n, c, L, p, q, rfl, ⟨DD.out.ia, hn⟩, DD.out.bel⟩

set_option maxRecDepth 100000 in
set_option maxHeartbeats 8000000 in
theorem s_DrawVolumeBetween (a0 : Option Addr) (n0 c0 : Nat) (w : World) (h : BytesAt w a0 n0) :
    Calls Try.prog 40 #[.slice a0 n0 c0] w fun e w' => ∃ (a : Option Addr) (n c : Nat) (L : List Int) (p q u : Int), e = .returned (.tuple #[.agg #[.slice a n c], .int .i64 p, .int .i64 q, .int .i64 u]) ∧ (IntsAt w' a n L ∧ n ≤ 24) ∧ Below w.heap.size w w' := by
  have H := hid h
  clear h
  go_enter Try.func40, Try.ntmps40
  go_upto_region 2 with fail
  have C0 := hid (Cur.start (c := c0) (g := w.heap.size + 1) (H.out.below (by go_grown : Below w.heap.size w (w.alloc (.cells #[.slice none 0 0] 26)))) (by simp))
  have R0 : ((w.alloc (.cells #[.slice none 0 0] 26)).alloc (.cells #[.slice a0 n0 c0, .int .i64 0, .int .u64 0] 85)).heap[w.heap.size]? = some (.cells #[.slice none 0 0] 26 (0, 0)) := (Below.heap_alloc _ _ _ (by simp)).trans (heap_alloc_new _ _)
  have B0 : Below w.heap.size w ((w.alloc (.cells #[.slice none 0 0] 26)).alloc (.cells #[.slice a0 n0 c0, .int .i64 0, .int .u64 0] 85)) := by go_grown
  have hz0 : ((w.alloc (.cells #[.slice none 0 0] 26)).alloc (.cells #[.slice a0 n0 c0, .int .i64 0, .int .u64 0] 85)).heap.size = w.heap.size + 1 + 1 := by simp
  generalize (w.alloc (.cells #[.slice none 0 0] 26)).alloc (.cells #[.slice a0 n0 c0, .int .i64 0, .int .u64 0] 85) = w0 at *
  go_wp2_with fail
  refine (c_profile _ 0 _ C0.out (by omega)).mono ?_
  rintro e w1 ⟨⟨a, n, c, rfl, hn, L, hI, hfr⟩, hc1, hg1⟩
  have hz1 := hg1.size
  have S1 := hid (show DB w (w1.alloc (.cells #[.slice a n c] 26)) (w.heap.size + 1) 100 w1.heap.size w.heap.size a n c L from
    ⟨hc1.below (by go_grown), (B0.grown hg1 (by omega) (fun q e => by have := Option.some.inj e; omega)).alloc (by omega) _, hI.below (by go_grown), heap_alloc_new _ _,
      (Below.heap_alloc _ _ _ (by omega)).trans ((hg1.block w.heap.size (by omega) (fun e => by have := Option.some.inj e; omega)).trans R0), by omega, by omega, by omega, fun b o e => by have := hfr b o e; omega⟩)
  have hpr : w1.heap.size ≠ w.heap.size := by omega
  clear C0 R0 B0 hI hfr hc1 hg1
  go_upto_region 3 with fail
  generalize w1.alloc (.cells #[.slice a n c] 26) = w2 at *
  generalize w1.heap.size = pb at *
  have m0 := S1.out.cell
  have hgz := S1.out.cur.lt
  refine wp_region_noPanic ?_
  refine wp_region_held_drew (S := (fun w' => w'.cell? ⟨pb, 0, none⟩ = some (.slice a n c))) (by kernel_rfl) (by exact m0) (fun hHeld => ?_)
  refine wpAnyH_take' (i := 0) (v := ?_) rfl (by kernel_rfl) (by kernel_rfl) (by kernel_rfl) (fun _ _ _ h => h) (Or.inl ⟨by rfl, ?_⟩) (by assumption) ?_
  rotate_left
  · (intro w' hSw; (try dsimp only at hSw); go_simp; all_goals with_reducible rfl)
  try simp only [Act.put, List.setIfInBounds_toArray, List.set_cons_zero, List.set_cons_succ]
  refine wpAnyH_take' (i := 1) (v := ?_) rfl (by kernel_rfl) (by kernel_rfl) (by kernel_rfl) (fun _ _ _ h => h) (Or.inl ⟨by rfl, ?_⟩) (by assumption) ?_
  rotate_left
  · (intro w' hSw; (try dsimp only at hSw); go_simp; all_goals with_reducible rfl)
  try simp only [Act.put, List.setIfInBounds_toArray, List.set_cons_zero, List.set_cons_succ]
  refine wpAnyH_take' (i := 3) (v := ?_) rfl (by kernel_rfl) (by kernel_rfl) (by kernel_rfl) (fun _ _ _ h => h) (Or.inl ⟨by rfl, ?_⟩) (by assumption) ?_
  rotate_left
  · (intro w' hSw; (try dsimp only at hSw); go_simp; all_goals with_reducible rfl)
  try simp only [Act.put, List.setIfInBounds_toArray, List.set_cons_zero, List.set_cons_succ]
  refine wpAnyH_take' (i := 5) (v := ?_) rfl (by kernel_rfl) (by kernel_rfl) (by kernel_rfl) (fun _ _ _ h => h) (Or.inl ⟨by rfl, ?_⟩) (by assumption) ?_
  rotate_left
  · (intro w' hSw; (try dsimp only at hSw); go_simp; all_goals with_reducible rfl)
  try simp only [Act.put, List.setIfInBounds_toArray, List.set_cons_zero, List.set_cons_succ]
  refine wpAnyH_take' (i := 7) (v := ?_) rfl (by kernel_rfl) (by kernel_rfl) (by kernel_rfl) (fun _ _ _ h => h) (Or.inl ⟨by rfl, ?_⟩) (by assumption) ?_
  rotate_left
  · (intro w' hSw; (try dsimp only at hSw); go_simp; all_goals with_reducible rfl)
  try simp only [Act.put, List.setIfInBounds_toArray, List.set_cons_zero, List.set_cons_succ]
  refine wpAnyH_ready (rs := [2, 6]) (by kernel_rfl) (by simp) ?_
  refine allReadyH_cons' rfl (fun Kn hKn => ?_) (allReadyH_cons' rfl (fun Kn hKn => ?_) AllReadyH.nil)
  · go_simp
    go_at_call 94
    refine (c_base _ _ _ (by exact (S1.out.below ((Below.refl _ _).drew)).cur) (by omega)).mono ?_
    rintro e wc2 ⟨⟨p, rfl⟩, hc, hg⟩
    have SC2 := hid ((S1.out.below ((Below.refl _ _).drew)).step hc hg)
    clear hc hg
    refine hKn.out _ _ (SC2.out.cell) (fun hHeldN => ?_)
    clear hKn Kn hHeld
    have hHeld := hHeldN
    clear hHeldN
    try simp only [Act.put, List.setIfInBounds_toArray, List.set_cons_zero, List.set_cons_succ]
    refine wpAnyH_ready (rs := [4, 6]) (by kernel_rfl) (by simp) ?_
    refine allReadyH_cons' rfl (fun Kn hKn => ?_) (allReadyH_cons' rfl (fun Kn hKn => ?_) AllReadyH.nil)
    · go_simp
      go_at_call 87
      refine (c_hour6 _ _ _ (by exact SC2.out.cur) (by omega)).mono ?_
      rintro e wc4 ⟨⟨q, rfl⟩, hc, hg⟩
      have SC4 := hid (SC2.out.step hc hg)
      clear hc hg
      refine hKn.out _ _ (SC4.out.cell) (fun hHeldN => ?_)
      clear hKn Kn hHeld
      have hHeld := hHeldN
      clear hHeldN
      try simp only [Act.put, List.setIfInBounds_toArray, List.set_cons_zero, List.set_cons_succ]
      refine wpAnyH_ready (rs := [6, 8]) (by kernel_rfl) (by simp) ?_
      refine allReadyH_cons' rfl (fun Kn hKn => ?_) (allReadyH_cons' rfl (fun Kn hKn => ?_) AllReadyH.nil)
      · go_simp
        have SV := hid (SC4.out.below (by go_grown : Below wc4.heap.size wc4 ((wc4.alloc (.cells #[.int .i64 0, .int .i64 1, .int .i64 3, .int .i64 24, .int .i64 (-1), .int .i64 25] 3)))))
        have IV := hid (show IntsAt ((wc4.alloc (.cells #[.int .i64 0, .int .i64 1, .int .i64 3, .int .i64 24, .int .i64 (-1), .int .i64 25] 3))) (some ⟨wc4.heap.size, 0, none⟩) 6 [0, 1, 3, 24, -1, 25] from IntsAt.lit' wc4 3 [0, 1, 3, 24, -1, 25] rfl rfl)
        have hgv := SC4.out.cur.lt
        refine hKn.out _ _ (SV.out.cell) (fun hHeldN => ?_)
        clear hKn Kn hHeld
        have hHeld := hHeldN
        clear hHeldN
        try simp only [Act.put, List.setIfInBounds_toArray, List.set_cons_zero, List.set_cons_succ]
        obtain ⟨lb, hlb⟩ : ∃ lb, wc4.heap.size = lb := ⟨_, rfl⟩
        rw [hlb] at IV ⊢
        have hlg : w.heap.size + 1 < lb := by omega
        clear hlb hgv
        generalize (wc4.alloc (.cells #[.int .i64 0, .int .i64 1, .int .i64 3, .int .i64 24, .int .i64 (-1), .int .i64 25] 3)) = wv at *
        refine wpAnyH_ready (rs := [8]) (by kernel_rfl) (by simp) ?_
        refine allReadyH_cons' rfl (fun Kn hKn => ?_) AllReadyH.nil
        go_simp
        go_at_call 92
        refine (c_pick _ _ 24 _ (by exact SV.out.cur) (by omega) (by omega)).mono ?_
        rintro e wc8 ⟨⟨v, rfl, hv0, hv1⟩, hc, hg⟩
        have SC8 := hid (SV.out.step hc hg)
        replace IV := hid (IV.out.kept hg (fun b o e e2 => by simp only [Option.some.injEq, Addr.mk.injEq] at e; have := Option.some.inj e2; omega))
        clear hc hg
        refine hKn.out _ _ (SC8.out.cell) (fun hHeldN => ?_)
        clear hKn Kn hHeld
        have hHeld := hHeldN
        clear hHeldN
        try simp only [Act.put, List.setIfInBounds_toArray, List.set_cons_zero, List.set_cons_succ]
        obtain ⟨k, hk⟩ : ∃ k : Nat, 4 + v.tdiv 11 = (k : Int) := ⟨(4 + v.tdiv 11).toNat, by rw [Int.tdiv_eq_ediv_of_nonneg hv0]; omega⟩
        have hk2 : 4 ≤ k ∧ k ≤ 6 := by rw [Int.tdiv_eq_ediv_of_nonneg hv0] at hk; omega
        have hw1 : IntKind.i64.wrap (v.tdiv 11) = v.tdiv 11 := IntWalk.i64_in _ (by rw [Int.tdiv_eq_ediv_of_nonneg hv0]; omega)
        have hw2 : IntKind.i64.wrap (4 + v.tdiv 11) = (k : Int) := by rw [hk]; exact IntWalk.i64_in _ (by omega)
        have hk3 : (k : Int) ≤ 6 := by omega
        clear hv0 hv1 hk
        refine wpAnyH_take' (i := 9) (v := ?_) rfl (by kernel_rfl) (by kernel_rfl) (by kernel_rfl) (fun _ _ _ h => h) (Or.inl ⟨by rfl, ?_⟩) (by assumption) ?_
        rotate_left
        · (intro w' hSw; (try dsimp only at hSw); go_simp; all_goals with_reducible rfl)
        try simp only [Act.put, List.setIfInBounds_toArray, List.set_cons_zero, List.set_cons_succ]
        refine wpAnyH_take' (i := 10) (v := ?_) rfl (by kernel_rfl) (by kernel_rfl) (by kernel_rfl) (fun _ _ _ h => h) (Or.inl ⟨by rfl, ?_⟩) (by assumption) ?_
        rotate_left
        · (intro w' hSw; (try dsimp only at hSw); go_simp; all_goals with_reducible rfl)
        try simp only [Act.put, List.setIfInBounds_toArray, List.set_cons_zero, List.set_cons_succ]
        refine wpAnyH_take' (i := 11) (v := ?_) rfl (by kernel_rfl) (by kernel_rfl) (by kernel_rfl) (fun _ _ _ h => h) (Or.inl ⟨by rfl, ?_⟩) (by assumption) ?_
        rotate_left
        · (intro w' hSw; (try dsimp only at hSw); go_simp; all_goals with_reducible rfl)
        try simp only [Act.put, List.setIfInBounds_toArray, List.set_cons_zero, List.set_cons_succ]
        refine wpAnyH_ready (rs := [12]) (by kernel_rfl) (by simp) ?_
        refine allReadyH_cons' rfl (fun Kn hKn => ?_) AllReadyH.nil
        go_simp
        go_at_call 91
        refine (c_among _ _ _ k _ ([0, 1, 3, 24, -1, 25].take k) _ (by exact SC8.out.cur) (by omega) (by exact ints_take IV.out (by omega)) (by omega) (by omega) (by omega)).mono ?_
        rintro e wu ⟨⟨u, rfl, hu⟩, hc, hg⟩
        have SU := hid (SC8.out.step hc hg)
        clear hc hg hu
        refine hKn.out _ _ (SU.out.cell) (fun hHeldN => ?_)
        clear hKn Kn hHeld
        have hHeld := hHeldN
        clear hHeldN
        try simp only [Act.put, List.setIfInBounds_toArray, List.set_cons_zero, List.set_cons_succ]
        have n0 : (wu).cell? ⟨w.heap.size, 0, none⟩ = some (.slice none 0 0) := by rw [cell_of_row _ _ _ _ _ (0, 0) SU.out.res]; rfl
        have g0 := frozen_of_row _ _ 0 _ _ SU.out.res
        have hrz := SU.out.rz
        refine wpAnyH_ready (rs := [13]) (by kernel_rfl) (by simp) ?_
        refine allReadyH_cons' rfl (fun Kn hKn => ?_) AllReadyH.nil
        go_simp
        have DD := hid (SU.out.fin hpr)
        refine hKn.out _ _ (DD.out.box) (fun hHeldN => ?_)
        clear hKn Kn hHeld
        have hHeld := hHeldN
        clear hHeldN
        try simp only [Act.put, List.setIfInBounds_toArray, List.set_cons_zero, List.set_cons_succ]
        clear n0 g0 hrz
        generalize (wu).setCell ⟨w.heap.size, 0, none⟩ (.slice a n c) = w9 at *
        refine wpAnyH_take' (i := 14) (v := ?_) rfl (by kernel_rfl) (by kernel_rfl) (by kernel_rfl) (fun _ _ _ h => h) (Or.inl ⟨by rfl, ?_⟩) (by assumption) ?_
        rotate_left
        · (intro w' hSw; (try dsimp only at hSw); go_simp; all_goals with_reducible rfl)
        try simp only [Act.put, List.setIfInBounds_toArray, List.set_cons_zero, List.set_cons_succ]
        refine wpAnyH_take' (i := 15) (v := ?_) rfl (by kernel_rfl) (by kernel_rfl) (by kernel_rfl) (fun _ _ _ h => h) (Or.inl ⟨by rfl, ?_⟩) (by assumption) ?_
        rotate_left
        · (intro w' hSw; (try dsimp only at hSw); go_simp; all_goals with_reducible rfl)
        try simp only [Act.put, List.setIfInBounds_toArray, List.set_cons_zero, List.set_cons_succ]
        refine wpAnyH_take' (i := 16) (v := ?_) rfl (by kernel_rfl) (by kernel_rfl) (by kernel_rfl) (fun _ _ _ h => h) (Or.inl ⟨by rfl, ?_⟩) (by assumption) ?_
        rotate_left
        · (intro w' hSw; (try dsimp only at hSw); go_simp; all_goals with_reducible rfl)
        try simp only [Act.put, List.setIfInBounds_toArray, List.set_cons_zero, List.set_cons_succ]
        refine wpAnyH_done (by kernel_rfl) ?_ _
        refine NoPanic.normal ?_
        clear hHeld
        go_wp2
        have u0 := cell_of_row _ _ 0 _ _ (0, 0) DD.out.res
        simp only [List.getElem?_toArray, List.getElem?_cons_zero] at u0
        refine bodyPost_ret (v := .tuple #[.agg #[.slice a n c], .int .i64 p, .int .i64 q, .int .i64 u]) (by simp [results, Try.results40, go_sem, *]) rfl ⟨a, n, c, L, p, q, u, rfl, ⟨DD.out.ia, hn⟩, DD.out.bel⟩
      · go_simp
        go_at_call 92
        refine (c_pick _ _ 24 _ (by exact SC4.out.cur) (by omega) (by omega)).mono ?_
        rintro e wc8 ⟨⟨v, rfl, hv0, hv1⟩, hc, hg⟩
        have SC8 := hid (SC4.out.step hc hg)
        clear hc hg
        refine hKn.out _ _ (SC8.out.cell) (fun hHeldN => ?_)
        clear hKn Kn hHeld
        have hHeld := hHeldN
        clear hHeldN
        try simp only [Act.put, List.setIfInBounds_toArray, List.set_cons_zero, List.set_cons_succ]
        obtain ⟨k, hk⟩ : ∃ k : Nat, 4 + v.tdiv 11 = (k : Int) := ⟨(4 + v.tdiv 11).toNat, by rw [Int.tdiv_eq_ediv_of_nonneg hv0]; omega⟩
        have hk2 : 4 ≤ k ∧ k ≤ 6 := by rw [Int.tdiv_eq_ediv_of_nonneg hv0] at hk; omega
        have hw1 : IntKind.i64.wrap (v.tdiv 11) = v.tdiv 11 := IntWalk.i64_in _ (by rw [Int.tdiv_eq_ediv_of_nonneg hv0]; omega)
        have hw2 : IntKind.i64.wrap (4 + v.tdiv 11) = (k : Int) := by rw [hk]; exact IntWalk.i64_in _ (by omega)
        have hk3 : (k : Int) ≤ 6 := by omega
        clear hv0 hv1 hk
        refine wpAnyH_take' (i := 9) (v := ?_) rfl (by kernel_rfl) (by kernel_rfl) (by kernel_rfl) (fun _ _ _ h => h) (Or.inl ⟨by rfl, ?_⟩) (by assumption) ?_
        rotate_left
        · (intro w' hSw; (try dsimp only at hSw); go_simp; all_goals with_reducible rfl)
        try simp only [Act.put, List.setIfInBounds_toArray, List.set_cons_zero, List.set_cons_succ]
        refine wpAnyH_take' (i := 10) (v := ?_) rfl (by kernel_rfl) (by kernel_rfl) (by kernel_rfl) (fun _ _ _ h => h) (Or.inl ⟨by rfl, ?_⟩) (by assumption) ?_
        rotate_left
        · (intro w' hSw; (try dsimp only at hSw); go_simp; all_goals with_reducible rfl)
        try simp only [Act.put, List.setIfInBounds_toArray, List.set_cons_zero, List.set_cons_succ]
        refine wpAnyH_ready (rs := [6]) (by kernel_rfl) (by simp) ?_
        refine allReadyH_cons' rfl (fun Kn hKn => ?_) AllReadyH.nil
        go_simp
        have SV := hid (SC8.out.below (by go_grown : Below wc8.heap.size wc8 ((wc8.alloc (.cells #[.int .i64 0, .int .i64 1, .int .i64 3, .int .i64 24, .int .i64 (-1), .int .i64 25] 3)))))
        have IV := hid (show IntsAt ((wc8.alloc (.cells #[.int .i64 0, .int .i64 1, .int .i64 3, .int .i64 24, .int .i64 (-1), .int .i64 25] 3))) (some ⟨wc8.heap.size, 0, none⟩) 6 [0, 1, 3, 24, -1, 25] from IntsAt.lit' wc8 3 [0, 1, 3, 24, -1, 25] rfl rfl)
        have hgv := SC8.out.cur.lt
        refine hKn.out _ _ (SV.out.cell) (fun hHeldN => ?_)
        clear hKn Kn hHeld
        have hHeld := hHeldN
        clear hHeldN
        try simp only [Act.put, List.setIfInBounds_toArray, List.set_cons_zero, List.set_cons_succ]
        obtain ⟨lb, hlb⟩ : ∃ lb, wc8.heap.size = lb := ⟨_, rfl⟩
        rw [hlb] at IV ⊢
        have hlg : w.heap.size + 1 < lb := by omega
        clear hlb hgv
        generalize (wc8.alloc (.cells #[.int .i64 0, .int .i64 1, .int .i64 3, .int .i64 24, .int .i64 (-1), .int .i64 25] 3)) = wv at *
        refine wpAnyH_take' (i := 11) (v := ?_) rfl (by kernel_rfl) (by kernel_rfl) (by kernel_rfl) (fun _ _ _ h => h) (Or.inl ⟨by rfl, ?_⟩) (by assumption) ?_
        rotate_left
        · (intro w' hSw; (try dsimp only at hSw); go_simp; all_goals with_reducible rfl)
        try simp only [Act.put, List.setIfInBounds_toArray, List.set_cons_zero, List.set_cons_succ]
        refine wpAnyH_ready (rs := [12]) (by kernel_rfl) (by simp) ?_
        refine allReadyH_cons' rfl (fun Kn hKn => ?_) AllReadyH.nil
        go_simp
        go_at_call 91
        refine (c_among _ _ _ k _ ([0, 1, 3, 24, -1, 25].take k) _ (by exact SV.out.cur) (by omega) (by exact ints_take IV.out (by omega)) (by omega) (by omega) (by omega)).mono ?_
        rintro e wu ⟨⟨u, rfl, hu⟩, hc, hg⟩
        have SU := hid (SV.out.step hc hg)
        clear hc hg hu
        refine hKn.out _ _ (SU.out.cell) (fun hHeldN => ?_)
        clear hKn Kn hHeld
        have hHeld := hHeldN
        clear hHeldN
        try simp only [Act.put, List.setIfInBounds_toArray, List.set_cons_zero, List.set_cons_succ]
        have n0 : (wu).cell? ⟨w.heap.size, 0, none⟩ = some (.slice none 0 0) := by rw [cell_of_row _ _ _ _ _ (0, 0) SU.out.res]; rfl
        have g0 := frozen_of_row _ _ 0 _ _ SU.out.res
        have hrz := SU.out.rz
        refine wpAnyH_ready (rs := [13]) (by kernel_rfl) (by simp) ?_
        refine allReadyH_cons' rfl (fun Kn hKn => ?_) AllReadyH.nil
        go_simp
        have DD := hid (SU.out.fin hpr)
        refine hKn.out _ _ (DD.out.box) (fun hHeldN => ?_)
        clear hKn Kn hHeld
        have hHeld := hHeldN
        clear hHeldN
        try simp only [Act.put, List.setIfInBounds_toArray, List.set_cons_zero, List.set_cons_succ]
        clear n0 g0 hrz
        generalize (wu).setCell ⟨w.heap.size, 0, none⟩ (.slice a n c) = w9 at *
        refine wpAnyH_take' (i := 14) (v := ?_) rfl (by kernel_rfl) (by kernel_rfl) (by kernel_rfl) (fun _ _ _ h => h) (Or.inl ⟨by rfl, ?_⟩) (by assumption) ?_
        rotate_left
        · (intro w' hSw; (try dsimp only at hSw); go_simp; all_goals with_reducible rfl)
        try simp only [Act.put, List.setIfInBounds_toArray, List.set_cons_zero, List.set_cons_succ]
        refine wpAnyH_take' (i := 15) (v := ?_) rfl (by kernel_rfl) (by kernel_rfl) (by kernel_rfl) (fun _ _ _ h => h) (Or.inl ⟨by rfl, ?_⟩) (by assumption) ?_
        rotate_left
        · (intro w' hSw; (try dsimp only at hSw); go_simp; all_goals with_reducible rfl)
        try simp only [Act.put, List.setIfInBounds_toArray, List.set_cons_zero, List.set_cons_succ]
        refine wpAnyH_take' (i := 16) (v := ?_) rfl (by kernel_rfl) (by kernel_rfl) (by kernel_rfl) (fun _ _ _ h => h) (Or.inl ⟨by rfl, ?_⟩) (by assumption) ?_
        rotate_left
        · (intro w' hSw; (try dsimp only at hSw); go_simp; all_goals with_reducible rfl)
        try simp only [Act.put, List.setIfInBounds_toArray, List.set_cons_zero, List.set_cons_succ]
        refine wpAnyH_done (by kernel_rfl) ?_ _
        refine NoPanic.normal ?_
        clear hHeld
        go_wp2
        have u0 := cell_of_row _ _ 0 _ _ (0, 0) DD.out.res
        simp only [List.getElem?_toArray, List.getElem?_cons_zero] at u0
        refine bodyPost_ret (v := .tuple #[.agg #[.slice a n c], .int .i64 p, .int .i64 q, .int .i64 u]) (by simp [results, Try.results40, go_sem, *]) rfl ⟨a, n, c, L, p, q, u, rfl, ⟨DD.out.ia, hn⟩, DD.out.bel⟩
    · go_simp
      have SV := hid (SC2.out.below (by go_grown : Below wc2.heap.size wc2 ((wc2.alloc (.cells #[.int .i64 0, .int .i64 1, .int .i64 3, .int .i64 24, .int .i64 (-1), .int .i64 25] 3)))))
      have IV := hid (show IntsAt ((wc2.alloc (.cells #[.int .i64 0, .int .i64 1, .int .i64 3, .int .i64 24, .int .i64 (-1), .int .i64 25] 3))) (some ⟨wc2.heap.size, 0, none⟩) 6 [0, 1, 3, 24, -1, 25] from IntsAt.lit' wc2 3 [0, 1, 3, 24, -1, 25] rfl rfl)
      have hgv := SC2.out.cur.lt
      refine hKn.out _ _ (SV.out.cell) (fun hHeldN => ?_)
      clear hKn Kn hHeld
      have hHeld := hHeldN
      clear hHeldN
      try simp only [Act.put, List.setIfInBounds_toArray, List.set_cons_zero, List.set_cons_succ]
      obtain ⟨lb, hlb⟩ : ∃ lb, wc2.heap.size = lb := ⟨_, rfl⟩
      rw [hlb] at IV ⊢
      have hlg : w.heap.size + 1 < lb := by omega
      clear hlb hgv
      generalize (wc2.alloc (.cells #[.int .i64 0, .int .i64 1, .int .i64 3, .int .i64 24, .int .i64 (-1), .int .i64 25] 3)) = wv at *
      refine wpAnyH_ready (rs := [4]) (by kernel_rfl) (by simp) ?_
      refine allReadyH_cons' rfl (fun Kn hKn => ?_) AllReadyH.nil
      go_simp
      go_at_call 87
      refine (c_hour6 _ _ _ (by exact SV.out.cur) (by omega)).mono ?_
      rintro e wc4 ⟨⟨q, rfl⟩, hc, hg⟩
      have SC4 := hid (SV.out.step hc hg)
      replace IV := hid (IV.out.kept hg (fun b o e e2 => by simp only [Option.some.injEq, Addr.mk.injEq] at e; have := Option.some.inj e2; omega))
      clear hc hg
      refine hKn.out _ _ (SC4.out.cell) (fun hHeldN => ?_)
      clear hKn Kn hHeld
      have hHeld := hHeldN
      clear hHeldN
      try simp only [Act.put, List.setIfInBounds_toArray, List.set_cons_zero, List.set_cons_succ]
      refine wpAnyH_ready (rs := [8]) (by kernel_rfl) (by simp) ?_
      refine allReadyH_cons' rfl (fun Kn hKn => ?_) AllReadyH.nil
      go_simp
      go_at_call 92
      refine (c_pick _ _ 24 _ (by exact SC4.out.cur) (by omega) (by omega)).mono ?_
      rintro e wc8 ⟨⟨v, rfl, hv0, hv1⟩, hc, hg⟩
      have SC8 := hid (SC4.out.step hc hg)
      replace IV := hid (IV.out.kept hg (fun b o e e2 => by simp only [Option.some.injEq, Addr.mk.injEq] at e; have := Option.some.inj e2; omega))
      clear hc hg
      refine hKn.out _ _ (SC8.out.cell) (fun hHeldN => ?_)
      clear hKn Kn hHeld
      have hHeld := hHeldN
      clear hHeldN
      try simp only [Act.put, List.setIfInBounds_toArray, List.set_cons_zero, List.set_cons_succ]
      obtain ⟨k, hk⟩ : ∃ k : Nat, 4 + v.tdiv 11 = (k : Int) := ⟨(4 + v.tdiv 11).toNat, by rw [Int.tdiv_eq_ediv_of_nonneg hv0]; omega⟩
      have hk2 : 4 ≤ k ∧ k ≤ 6 := by rw [Int.tdiv_eq_ediv_of_nonneg hv0] at hk; omega
      have hw1 : IntKind.i64.wrap (v.tdiv 11) = v.tdiv 11 := IntWalk.i64_in _ (by rw [Int.tdiv_eq_ediv_of_nonneg hv0]; omega)
      have hw2 : IntKind.i64.wrap (4 + v.tdiv 11) = (k : Int) := by rw [hk]; exact IntWalk.i64_in _ (by omega)
      have hk3 : (k : Int) ≤ 6 := by omega
      clear hv0 hv1 hk
      refine wpAnyH_take' (i := 9) (v := ?_) rfl (by kernel_rfl) (by kernel_rfl) (by kernel_rfl) (fun _ _ _ h => h) (Or.inl ⟨by rfl, ?_⟩) (by assumption) ?_
      rotate_left
      · (intro w' hSw; (try dsimp only at hSw); go_simp; all_goals with_reducible rfl)
      try simp only [Act.put, List.setIfInBounds_toArray, List.set_cons_zero, List.set_cons_succ]
      refine wpAnyH_take' (i := 10) (v := ?_) rfl (by kernel_rfl) (by kernel_rfl) (by kernel_rfl) (fun _ _ _ h => h) (Or.inl ⟨by rfl, ?_⟩) (by assumption) ?_
      rotate_left
      · (intro w' hSw; (try dsimp only at hSw); go_simp; all_goals with_reducible rfl)
      try simp only [Act.put, List.setIfInBounds_toArray, List.set_cons_zero, List.set_cons_succ]
      refine wpAnyH_take' (i := 11) (v := ?_) rfl (by kernel_rfl) (by kernel_rfl) (by kernel_rfl) (fun _ _ _ h => h) (Or.inl ⟨by rfl, ?_⟩) (by assumption) ?_
      rotate_left
      · (intro w' hSw; (try dsimp only at hSw); go_simp; all_goals with_reducible rfl)
      try simp only [Act.put, List.setIfInBounds_toArray, List.set_cons_zero, List.set_cons_succ]
      refine wpAnyH_ready (rs := [12]) (by kernel_rfl) (by simp) ?_
      refine allReadyH_cons' rfl (fun Kn hKn => ?_) AllReadyH.nil
      go_simp
      go_at_call 91
      refine (c_among _ _ _ k _ ([0, 1, 3, 24, -1, 25].take k) _ (by exact SC8.out.cur) (by omega) (by exact ints_take IV.out (by omega)) (by omega) (by omega) (by omega)).mono ?_
      rintro e wu ⟨⟨u, rfl, hu⟩, hc, hg⟩
      have SU := hid (SC8.out.step hc hg)
      clear hc hg hu
      refine hKn.out _ _ (SU.out.cell) (fun hHeldN => ?_)
      clear hKn Kn hHeld
      have hHeld := hHeldN
      clear hHeldN
      try simp only [Act.put, List.setIfInBounds_toArray, List.set_cons_zero, List.set_cons_succ]
      have n0 : (wu).cell? ⟨w.heap.size, 0, none⟩ = some (.slice none 0 0) := by rw [cell_of_row _ _ _ _ _ (0, 0) SU.out.res]; rfl
      have g0 := frozen_of_row _ _ 0 _ _ SU.out.res
      have hrz := SU.out.rz
      refine wpAnyH_ready (rs := [13]) (by kernel_rfl) (by simp) ?_
      refine allReadyH_cons' rfl (fun Kn hKn => ?_) AllReadyH.nil
      go_simp
      have DD := hid (SU.out.fin hpr)
      refine hKn.out _ _ (DD.out.box) (fun hHeldN => ?_)
      clear hKn Kn hHeld
      have hHeld := hHeldN
      clear hHeldN
      try simp only [Act.put, List.setIfInBounds_toArray, List.set_cons_zero, List.set_cons_succ]
      clear n0 g0 hrz
      generalize (wu).setCell ⟨w.heap.size, 0, none⟩ (.slice a n c) = w9 at *
      refine wpAnyH_take' (i := 14) (v := ?_) rfl (by kernel_rfl) (by kernel_rfl) (by kernel_rfl) (fun _ _ _ h => h) (Or.inl ⟨by rfl, ?_⟩) (by assumption) ?_
      rotate_left
      · (intro w' hSw; (try dsimp only at hSw); go_simp; all_goals with_reducible rfl)
      try simp only [Act.put, List.setIfInBounds_toArray, List.set_cons_zero, List.set_cons_succ]
      refine wpAnyH_take' (i := 15) (v := ?_) rfl (by kernel_rfl) (by kernel_rfl) (by kernel_rfl) (fun _ _ _ h => h) (Or.inl ⟨by rfl, ?_⟩) (by assumption) ?_
      rotate_left
      · (intro w' hSw; (try dsimp only at hSw); go_simp; all_goals with_reducible rfl)
      try simp only [Act.put, List.setIfInBounds_toArray, List.set_cons_zero, List.set_cons_succ]
      refine wpAnyH_take' (i := 16) (v := ?_) rfl (by kernel_rfl) (by kernel_rfl) (by kernel_rfl) (fun _ _ _ h => h) (Or.inl ⟨by rfl, ?_⟩) (by assumption) ?_
      rotate_left
      · (intro w' hSw; (try dsimp only at hSw); go_simp; all_goals with_reducible rfl)
      try simp only [Act.put, List.setIfInBounds_toArray, List.set_cons_zero, List.set_cons_succ]
      refine wpAnyH_done (by kernel_rfl) ?_ _
      refine NoPanic.normal ?_
      clear hHeld
      go_wp2
      have u0 := cell_of_row _ _ 0 _ _ (0, 0) DD.out.res
      simp only [List.getElem?_toArray, List.getElem?_cons_zero] at u0
      refine bodyPost_ret (v := .tuple #[.agg #[.slice a n c], .int .i64 p, .int .i64 q, .int .i64 u]) (by simp [results, Try.results40, go_sem, *]) rfl ⟨a, n, c, L, p, q, u, rfl, ⟨DD.out.ia, hn⟩, DD.out.bel⟩
  · go_simp
    have SV := hid (S1.out.below (by go_grown : Below w2.heap.size w2 ((w2.alloc (.cells #[.int .i64 0, .int .i64 1, .int .i64 3, .int .i64 24, .int .i64 (-1), .int .i64 25] 3)).drew)))
    have IV := hid (show IntsAt ((w2.alloc (.cells #[.int .i64 0, .int .i64 1, .int .i64 3, .int .i64 24, .int .i64 (-1), .int .i64 25] 3)).drew) (some ⟨w2.heap.size, 0, none⟩) 6 [0, 1, 3, 24, -1, 25] from IntsAt.below (IntsAt.lit' w2 3 [0, 1, 3, 24, -1, 25] rfl rfl) ((Below.refl _ _).drew))
    have hgv := S1.out.cur.lt
    refine hKn.out _ _ (SV.out.cell) (fun hHeldN => ?_)
    clear hKn Kn hHeld
    have hHeld := hHeldN
    clear hHeldN
    try simp only [Act.put, List.setIfInBounds_toArray, List.set_cons_zero, List.set_cons_succ]
    obtain ⟨lb, hlb⟩ : ∃ lb, w2.heap.size = lb := ⟨_, rfl⟩
    rw [hlb] at IV ⊢
    have hlg : w.heap.size + 1 < lb := by omega
    clear hlb hgv
    generalize (w2.alloc (.cells #[.int .i64 0, .int .i64 1, .int .i64 3, .int .i64 24, .int .i64 (-1), .int .i64 25] 3)).drew = wv at *
    refine wpAnyH_ready (rs := [2]) (by kernel_rfl) (by simp) ?_
    refine allReadyH_cons' rfl (fun Kn hKn => ?_) AllReadyH.nil
    go_simp
    go_at_call 94
    refine (c_base _ _ _ (by exact SV.out.cur) (by omega)).mono ?_
    rintro e wc2 ⟨⟨p, rfl⟩, hc, hg⟩
    have SC2 := hid (SV.out.step hc hg)
    replace IV := hid (IV.out.kept hg (fun b o e e2 => by simp only [Option.some.injEq, Addr.mk.injEq] at e; have := Option.some.inj e2; omega))
    clear hc hg
    refine hKn.out _ _ (SC2.out.cell) (fun hHeldN => ?_)
    clear hKn Kn hHeld
    have hHeld := hHeldN
    clear hHeldN
    try simp only [Act.put, List.setIfInBounds_toArray, List.set_cons_zero, List.set_cons_succ]
    refine wpAnyH_ready (rs := [4]) (by kernel_rfl) (by simp) ?_
    refine allReadyH_cons' rfl (fun Kn hKn => ?_) AllReadyH.nil
    go_simp
    go_at_call 87
    refine (c_hour6 _ _ _ (by exact SC2.out.cur) (by omega)).mono ?_
    rintro e wc4 ⟨⟨q, rfl⟩, hc, hg⟩
    have SC4 := hid (SC2.out.step hc hg)
    replace IV := hid (IV.out.kept hg (fun b o e e2 => by simp only [Option.some.injEq, Addr.mk.injEq] at e; have := Option.some.inj e2; omega))
    clear hc hg
    refine hKn.out _ _ (SC4.out.cell) (fun hHeldN => ?_)
    clear hKn Kn hHeld
    have hHeld := hHeldN
    clear hHeldN
    try simp only [Act.put, List.setIfInBounds_toArray, List.set_cons_zero, List.set_cons_succ]
    refine wpAnyH_ready (rs := [8]) (by kernel_rfl) (by simp) ?_
    refine allReadyH_cons' rfl (fun Kn hKn => ?_) AllReadyH.nil
    go_simp
    go_at_call 92
    refine (c_pick _ _ 24 _ (by exact SC4.out.cur) (by omega) (by omega)).mono ?_
    rintro e wc8 ⟨⟨v, rfl, hv0, hv1⟩, hc, hg⟩
    have SC8 := hid (SC4.out.step hc hg)
    replace IV := hid (IV.out.kept hg (fun b o e e2 => by simp only [Option.some.injEq, Addr.mk.injEq] at e; have := Option.some.inj e2; omega))
    clear hc hg
    refine hKn.out _ _ (SC8.out.cell) (fun hHeldN => ?_)
    clear hKn Kn hHeld
    have hHeld := hHeldN
    clear hHeldN
    try simp only [Act.put, List.setIfInBounds_toArray, List.set_cons_zero, List.set_cons_succ]
    obtain ⟨k, hk⟩ : ∃ k : Nat, 4 + v.tdiv 11 = (k : Int) := ⟨(4 + v.tdiv 11).toNat, by rw [Int.tdiv_eq_ediv_of_nonneg hv0]; omega⟩
    have hk2 : 4 ≤ k ∧ k ≤ 6 := by rw [Int.tdiv_eq_ediv_of_nonneg hv0] at hk; omega
    have hw1 : IntKind.i64.wrap (v.tdiv 11) = v.tdiv 11 := IntWalk.i64_in _ (by rw [Int.tdiv_eq_ediv_of_nonneg hv0]; omega)
    have hw2 : IntKind.i64.wrap (4 + v.tdiv 11) = (k : Int) := by rw [hk]; exact IntWalk.i64_in _ (by omega)
    have hk3 : (k : Int) ≤ 6 := by omega
    clear hv0 hv1 hk
    refine wpAnyH_take' (i := 9) (v := ?_) rfl (by kernel_rfl) (by kernel_rfl) (by kernel_rfl) (fun _ _ _ h => h) (Or.inl ⟨by rfl, ?_⟩) (by assumption) ?_
    rotate_left
    · (intro w' hSw; (try dsimp only at hSw); go_simp; all_goals with_reducible rfl)
    try simp only [Act.put, List.setIfInBounds_toArray, List.set_cons_zero, List.set_cons_succ]
    refine wpAnyH_take' (i := 10) (v := ?_) rfl (by kernel_rfl) (by kernel_rfl) (by kernel_rfl) (fun _ _ _ h => h) (Or.inl ⟨by rfl, ?_⟩) (by assumption) ?_
    rotate_left
    · (intro w' hSw; (try dsimp only at hSw); go_simp; all_goals with_reducible rfl)
    try simp only [Act.put, List.setIfInBounds_toArray, List.set_cons_zero, List.set_cons_succ]
    refine wpAnyH_take' (i := 11) (v := ?_) rfl (by kernel_rfl) (by kernel_rfl) (by kernel_rfl) (fun _ _ _ h => h) (Or.inl ⟨by rfl, ?_⟩) (by assumption) ?_
    rotate_left
    · (intro w' hSw; (try dsimp only at hSw); go_simp; all_goals with_reducible rfl)
    try simp only [Act.put, List.setIfInBounds_toArray, List.set_cons_zero, List.set_cons_succ]
    refine wpAnyH_ready (rs := [12]) (by kernel_rfl) (by simp) ?_
    refine allReadyH_cons' rfl (fun Kn hKn => ?_) AllReadyH.nil
    go_simp
    go_at_call 91
    refine (c_among _ _ _ k _ ([0, 1, 3, 24, -1, 25].take k) _ (by exact SC8.out.cur) (by omega) (by exact ints_take IV.out (by omega)) (by omega) (by omega) (by omega)).mono ?_
    rintro e wu ⟨⟨u, rfl, hu⟩, hc, hg⟩
    have SU := hid (SC8.out.step hc hg)
    clear hc hg hu
    refine hKn.out _ _ (SU.out.cell) (fun hHeldN => ?_)
    clear hKn Kn hHeld
    have hHeld := hHeldN
    clear hHeldN
    try simp only [Act.put, List.setIfInBounds_toArray, List.set_cons_zero, List.set_cons_succ]
    have n0 : (wu).cell? ⟨w.heap.size, 0, none⟩ = some (.slice none 0 0) := by rw [cell_of_row _ _ _ _ _ (0, 0) SU.out.res]; rfl
    have g0 := frozen_of_row _ _ 0 _ _ SU.out.res
    have hrz := SU.out.rz
    refine wpAnyH_ready (rs := [13]) (by kernel_rfl) (by simp) ?_
    refine allReadyH_cons' rfl (fun Kn hKn => ?_) AllReadyH.nil
    go_simp
    have DD := hid (SU.out.fin hpr)
    refine hKn.out _ _ (DD.out.box) (fun hHeldN => ?_)
    clear hKn Kn hHeld
    have hHeld := hHeldN
    clear hHeldN
    try simp only [Act.put, List.setIfInBounds_toArray, List.set_cons_zero, List.set_cons_succ]
    clear n0 g0 hrz
    generalize (wu).setCell ⟨w.heap.size, 0, none⟩ (.slice a n c) = w9 at *
    refine wpAnyH_take' (i := 14) (v := ?_) rfl (by kernel_rfl) (by kernel_rfl) (by kernel_rfl) (fun _ _ _ h => h) (Or.inl ⟨by rfl, ?_⟩) (by assumption) ?_
    rotate_left
    · (intro w' hSw; (try dsimp only at hSw); go_simp; all_goals with_reducible rfl)
    try simp only [Act.put, List.setIfInBounds_toArray, List.set_cons_zero, List.set_cons_succ]
    refine wpAnyH_take' (i := 15) (v := ?_) rfl (by kernel_rfl) (by kernel_rfl) (by kernel_rfl) (fun _ _ _ h => h) (Or.inl ⟨by rfl, ?_⟩) (by assumption) ?_
    rotate_left
    · (intro w' hSw; (try dsimp only at hSw); go_simp; all_goals with_reducible rfl)
    try simp only [Act.put, List.setIfInBounds_toArray, List.set_cons_zero, List.set_cons_succ]
    refine wpAnyH_take' (i := 16) (v := ?_) rfl (by kernel_rfl) (by kernel_rfl) (by kernel_rfl) (fun _ _ _ h => h) (Or.inl ⟨by rfl, ?_⟩) (by assumption) ?_
    rotate_left
    · (intro w' hSw; (try dsimp only at hSw); go_simp; all_goals with_reducible rfl)
    try simp only [Act.put, List.setIfInBounds_toArray, List.set_cons_zero, List.set_cons_succ]
    refine wpAnyH_done (by kernel_rfl) ?_ _
    refine NoPanic.normal ?_
    clear hHeld
    go_wp2
    have u0 := cell_of_row _ _ 0 _ _ (0, 0) DD.out.res
    simp only [List.getElem?_toArray, List.getElem?_cons_zero] at u0
    refine bodyPost_ret (v := .tuple #[.agg #[.slice a n c], .int .i64 p, .int .i64 q, .int .i64 u]) (by simp [results, Try.results40, go_sem, *]) rfl ⟨a, n, c, L, p, q, u, rfl, ⟨DD.out.ia, hn⟩, DD.out.bel⟩

end Go.Proofs.Ytpmffboojkfpdaa

