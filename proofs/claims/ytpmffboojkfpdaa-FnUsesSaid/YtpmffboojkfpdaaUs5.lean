/-
  Texts of this claim, joined: DrawP.
-/
import Derived.Test.YtpmffboojkfpdaaUs4
/-
  The draws of profiles.
-/
set_option linter.unusedVariables false
set_option linter.unusedSimpArgs false
namespace Go.Proofs.Ytpmffboojkfpdaa
open Go.RowKit

/-- A drawn profile in its box pb, the result's place rb, the cursor. -/
structure DB (w W : World) (g K pb rb : Nat) (a : Option Addr) (n c : Nat) (L : List Int) : Prop where
  cur : Cur W g K
  bel : Below w.heap.size w W
  ia : IntsAt W a n L
  box : W.heap[pb]? = some (.cells #[.slice a n c] 26 (0, 0))
  res : W.heap[rb]? = some (.cells #[.slice none 0 0] 26 (0, 0))
  lo : w.heap.size ≤ g ∧ w.heap.size ≤ rb
  pg : pb ≠ g
  rg : rb ≠ g
  fr : ∀ b o, a = some ⟨b, o, none⟩ → b ≠ g ∧ b ≠ rb
section
variable {w W W' : World} {g K pb rb n c : Nat} {a : Option Addr} {L : List Int}
theorem DB.pz (h : DB w W g K pb rb a n c L) : pb < W.heap.size := (Array.getElem?_eq_some_iff.1 h.box).1
theorem DB.rz (h : DB w W g K pb rb a n c L) : rb < W.heap.size := (Array.getElem?_eq_some_iff.1 h.res).1
theorem DB.step {K' : Nat} (h : DB w W g K pb rb a n c L) (hc : Cur W' g K') (hg : W.grownBy W' (some g)) : DB w W' g K' pb rb a n c L :=
  ⟨hc, h.bel.grown hg h.bel.size (fun q e => by have := h.lo.1; have := Option.some.inj e; omega), h.ia.kept hg (fun b o e e2 => (h.fr b o e).1 (Option.some.inj e2)),
    (hg.block pb h.pz (fun e => h.pg (Option.some.inj e))).trans h.box, (hg.block rb h.rz (fun e => h.rg (Option.some.inj e))).trans h.res, h.lo, h.pg, h.rg, h.fr⟩
theorem DB.below (h : DB w W g K pb rb a n c L) (hb : Below W.heap.size W W') : DB w W' g K pb rb a n c L := h.step (h.cur.below hb) (grown_of_below hb _)
theorem DB.cell (h : DB w W g K pb rb a n c L) : W.cell? ⟨pb, 0, none⟩ = some (.slice a n c) := by rw [cell_of_row W _ _ _ _ (0, 0) h.box]; rfl
end
/-- The result is laid. -/
structure DF (w W : World) (pb rb : Nat) (a : Option Addr) (n c : Nat) (L : List Int) : Prop where
  bel : Below w.heap.size w W
  ia : IntsAt W a n L
  box : W.cell? ⟨pb, 0, none⟩ = some (.slice a n c)
  res : W.heap[rb]? = some (.cells #[.slice a n c] 26 (0, 0))
theorem DB.fin {w W : World} {g K pb rb n c : Nat} {a : Option Addr} {L : List Int} (h : DB w W g K pb rb a n c L) (hpr : pb ≠ rb) : DF w (W.setCell ⟨rb, 0, none⟩ (.slice a n c)) pb rb a n c L := by
  refine ⟨h.bel.setCell h.lo.2 _, h.ia.kept (grown_setCell W rb 0 _) (fun b o e e2 => (h.fr b o e).2 (Option.some.inj e2)), ?_, ?_⟩
  · rw [World.cell?_setCell_far _ _ _ _ (fun e => hpr e.symm)]
    exact h.cell
  · have e := heap_setCell_same _ _ 0 _ _ (.slice a n c) h.res
    simpa using e

set_option maxRecDepth 100000 in
set_option maxHeartbeats 8000000 in
theorem s_DrawShiftProfile (a0 : Option Addr) (n0 c0 : Nat) (w : World) (h : BytesAt w a0 n0) :
    Calls Try.prog 29 #[.slice a0 n0 c0] w fun e w' => ∃ (a : Option Addr) (n c : Nat) (L : List Int) (q : Int), e = .returned (.tuple #[.agg #[.slice a n c], .int .i64 q]) ∧ (IntsAt w' a n L ∧ n ≤ 24) ∧ Below w.heap.size w w' := by
  have H := hid h
  clear h
  go_enter Try.func29, Try.ntmps29
  go_upto_region 2 with fail
  have C0 := hid (Cur.start (c := c0) (g := w.heap.size + 1) (H.out.below (by go_grown : Below w.heap.size w (w.alloc (.cells #[.slice none 0 0] 26)))) (by simp))
  have R0 : ((w.alloc (.cells #[.slice none 0 0] 26)).alloc (.cells #[.slice a0 n0 c0, .int .i64 0, .int .u64 0] 85)).heap[w.heap.size]? = some (.cells #[.slice none 0 0] 26 (0, 0)) := (Below.heap_alloc _ _ _ (by simp)).trans (heap_alloc_new _ _)
  have B0 : Below w.heap.size w ((w.alloc (.cells #[.slice none 0 0] 26)).alloc (.cells #[.slice a0 n0 c0, .int .i64 0, .int .u64 0] 85)) := by go_grown
  have hz0 : ((w.alloc (.cells #[.slice none 0 0] 26)).alloc (.cells #[.slice a0 n0 c0, .int .i64 0, .int .u64 0] 85)).heap.size = w.heap.size + 1 + 1 := by simp
  generalize (w.alloc (.cells #[.slice none 0 0] 26)).alloc (.cells #[.slice a0 n0 c0, .int .i64 0, .int .u64 0] 85) = w0 at *
  go_wp2_with fail
  refine (c_profile _ 0 _ C0.out (by omega)).mono ?_
  rintro e w1 ⟨⟨a, n, c, rfl, hn, L, hI, hfr⟩, hc1, hg1⟩
  have hz1 := hg1.size
  have S1 := hid (show DB w (w1.alloc (.cells #[.slice a n c] 26)) (w.heap.size + 1) 100 w1.heap.size w.heap.size a n c L from
    ⟨hc1.below (by go_grown), (B0.grown hg1 (by omega) (fun q e => by have := Option.some.inj e; omega)).alloc (by omega) _, hI.below (by go_grown), heap_alloc_new _ _,
      (Below.heap_alloc _ _ _ (by omega)).trans ((hg1.block w.heap.size (by omega) (fun e => by have := Option.some.inj e; omega)).trans R0), by omega, by omega, by omega, fun b o e => by have := hfr b o e; omega⟩)
  have hpr : w1.heap.size ≠ w.heap.size := by omega
  clear C0 R0 B0 hI hfr hc1 hg1
  go_upto_region 3 with fail
  generalize w1.alloc (.cells #[.slice a n c] 26) = w2 at *
  generalize w1.heap.size = pb at *
  have m0 := S1.out.cell
  refine wp_region_noPanic ?_
  refine wp_region_held_drew (S := (fun w' => w'.cell? ⟨pb, 0, none⟩ = some (.slice a n c))) (by kernel_rfl) (by exact m0) (fun hHeld => ?_)
  refine wpAnyH_take' (i := 0) (v := ?_) rfl (by kernel_rfl) (by kernel_rfl) (by kernel_rfl) (fun _ _ _ h => h) (Or.inl ⟨by rfl, ?_⟩) (by assumption) ?_
  rotate_left
  · (intro w' hSw; (try dsimp only at hSw); go_simp; all_goals with_reducible rfl)
  try simp only [Act.put, List.setIfInBounds_toArray, List.set_cons_zero, List.set_cons_succ]
  refine wpAnyH_take' (i := 1) (v := ?_) rfl (by kernel_rfl) (by kernel_rfl) (by kernel_rfl) (fun _ _ _ h => h) (Or.inl ⟨by rfl, ?_⟩) (by assumption) ?_
  rotate_left
  · (intro w' hSw; (try dsimp only at hSw); go_simp; all_goals with_reducible rfl)
  try simp only [Act.put, List.setIfInBounds_toArray, List.set_cons_zero, List.set_cons_succ]
  refine wpAnyH_ready (rs := [2]) (by kernel_rfl) (by simp) ?_
  refine allReadyH_cons' rfl (fun Kn hKn => ?_) AllReadyH.nil
  go_simp
  go_at_call 87
  refine (c_hour6 _ 100 _ (by exact (S1.out.below ((Below.refl _ _).drew)).cur) (by omega)).mono ?_
  rintro e w3 ⟨⟨q, rfl⟩, hc, hg⟩
  have S3 := hid ((S1.out.below ((Below.refl _ _).drew)).step hc hg)
  clear hc hg
  refine hKn.out _ _ (S3.out.cell) (fun hHeldN => ?_)
  clear hKn Kn hHeld
  have hHeld := hHeldN
  clear hHeldN
  try simp only [Act.put, List.setIfInBounds_toArray, List.set_cons_zero, List.set_cons_succ]
  have n0 : (w3).cell? ⟨w.heap.size, 0, none⟩ = some (.slice none 0 0) := by rw [cell_of_row _ _ _ _ _ (0, 0) S3.out.res]; rfl
  have g0 := frozen_of_row _ _ 0 _ _ S3.out.res
  have hrz := S3.out.rz
  refine wpAnyH_ready (rs := [3]) (by kernel_rfl) (by simp) ?_
  refine allReadyH_cons' rfl (fun Kn hKn => ?_) AllReadyH.nil
  go_simp
  have DD := hid (S3.out.fin hpr)
  refine hKn.out _ _ (DD.out.box) (fun hHeldN => ?_)
  clear hKn Kn hHeld
  have hHeld := hHeldN
  clear hHeldN
  try simp only [Act.put, List.setIfInBounds_toArray, List.set_cons_zero, List.set_cons_succ]
  clear n0 g0 hrz
  generalize (w3).setCell ⟨w.heap.size, 0, none⟩ (.slice a n c) = w4 at *
  refine wpAnyH_take' (i := 4) (v := ?_) rfl (by kernel_rfl) (by kernel_rfl) (by kernel_rfl) (fun _ _ _ h => h) (Or.inl ⟨by rfl, ?_⟩) (by assumption) ?_
  rotate_left
  · (intro w' hSw; (try dsimp only at hSw); go_simp; all_goals with_reducible rfl)
  try simp only [Act.put, List.setIfInBounds_toArray, List.set_cons_zero, List.set_cons_succ]
  refine wpAnyH_done (by kernel_rfl) ?_ _
  refine NoPanic.normal ?_
  clear hHeld
  go_wp2
  have u0 := cell_of_row _ _ 0 _ _ (0, 0) DD.out.res
  simp only [List.getElem?_toArray, List.getElem?_cons_zero] at u0
  refine bodyPost_ret (v := .tuple #[.agg #[.slice a n c], .int .i64 q]) (by simp [results, Try.results29, go_sem, *]) rfl ⟨a, n, c, L, q, rfl, ⟨DD.out.ia, hn⟩, DD.out.bel⟩

set_option maxRecDepth 100000 in
set_option maxHeartbeats 8000000 in
theorem s_DrawFlattenProfile (a0 : Option Addr) (n0 c0 : Nat) (w : World) (h : BytesAt w a0 n0) :
    Calls Try.prog 33 #[.slice a0 n0 c0] w fun e w' => ∃ (a : Option Addr) (n c : Nat) (L : List Int) (q : Int), e = .returned (.tuple #[.agg #[.slice a n c], .int .i64 q]) ∧ (IntsAt w' a n L ∧ n ≤ 24) ∧ Below w.heap.size w w' := by
  have H := hid h
  clear h
  go_enter Try.func33, Try.ntmps33
  go_upto_region 2 with fail
  have C0 := hid (Cur.start (c := c0) (g := w.heap.size + 1) (H.out.below (by go_grown : Below w.heap.size w (w.alloc (.cells #[.slice none 0 0] 26)))) (by simp))
  have R0 : ((w.alloc (.cells #[.slice none 0 0] 26)).alloc (.cells #[.slice a0 n0 c0, .int .i64 0, .int .u64 0] 85)).heap[w.heap.size]? = some (.cells #[.slice none 0 0] 26 (0, 0)) := (Below.heap_alloc _ _ _ (by simp)).trans (heap_alloc_new _ _)
  have B0 : Below w.heap.size w ((w.alloc (.cells #[.slice none 0 0] 26)).alloc (.cells #[.slice a0 n0 c0, .int .i64 0, .int .u64 0] 85)) := by go_grown
  have hz0 : ((w.alloc (.cells #[.slice none 0 0] 26)).alloc (.cells #[.slice a0 n0 c0, .int .i64 0, .int .u64 0] 85)).heap.size = w.heap.size + 1 + 1 := by simp
  generalize (w.alloc (.cells #[.slice none 0 0] 26)).alloc (.cells #[.slice a0 n0 c0, .int .i64 0, .int .u64 0] 85) = w0 at *
  go_wp2_with fail
  refine (c_profile _ 0 _ C0.out (by omega)).mono ?_
  rintro e w1 ⟨⟨a, n, c, rfl, hn, L, hI, hfr⟩, hc1, hg1⟩
  have hz1 := hg1.size
  have S1 := hid (show DB w (w1.alloc (.cells #[.slice a n c] 26)) (w.heap.size + 1) 100 w1.heap.size w.heap.size a n c L from
    ⟨hc1.below (by go_grown), (B0.grown hg1 (by omega) (fun q e => by have := Option.some.inj e; omega)).alloc (by omega) _, hI.below (by go_grown), heap_alloc_new _ _,
      (Below.heap_alloc _ _ _ (by omega)).trans ((hg1.block w.heap.size (by omega) (fun e => by have := Option.some.inj e; omega)).trans R0), by omega, by omega, by omega, fun b o e => by have := hfr b o e; omega⟩)
  have hpr : w1.heap.size ≠ w.heap.size := by omega
  clear C0 R0 B0 hI hfr hc1 hg1
  go_upto_region 3 with fail
  generalize w1.alloc (.cells #[.slice a n c] 26) = w2 at *
  generalize w1.heap.size = pb at *
  have m0 := S1.out.cell
  have hgz := S1.out.cur.lt
  refine wp_region_noPanic ?_
  refine wp_region_held_drew (S := (fun w' => w'.cell? ⟨pb, 0, none⟩ = some (.slice a n c))) (by kernel_rfl) (by exact m0) (fun hHeld => ?_)
  refine wpAnyH_take' (i := 0) (v := ?_) rfl (by kernel_rfl) (by kernel_rfl) (by kernel_rfl) (fun _ _ _ h => h) (Or.inl ⟨by rfl, ?_⟩) (by assumption) ?_
  rotate_left
  · (intro w' hSw; (try dsimp only at hSw); go_simp; all_goals with_reducible rfl)
  try simp only [Act.put, List.setIfInBounds_toArray, List.set_cons_zero, List.set_cons_succ]
  refine wpAnyH_take' (i := 1) (v := ?_) rfl (by kernel_rfl) (by kernel_rfl) (by kernel_rfl) (fun _ _ _ h => h) (Or.inl ⟨by rfl, ?_⟩) (by assumption) ?_
  rotate_left
  · (intro w' hSw; (try dsimp only at hSw); go_simp; all_goals with_reducible rfl)
  try simp only [Act.put, List.setIfInBounds_toArray, List.set_cons_zero, List.set_cons_succ]
  refine wpAnyH_take' (i := 3) (v := ?_) rfl (by kernel_rfl) (by kernel_rfl) (by kernel_rfl) (fun _ _ _ h => h) (Or.inl ⟨by rfl, ?_⟩) (by assumption) ?_
  rotate_left
  · (intro w' hSw; (try dsimp only at hSw); go_simp; all_goals with_reducible rfl)
  try simp only [Act.put, List.setIfInBounds_toArray, List.set_cons_zero, List.set_cons_succ]
  refine wpAnyH_ready (rs := [2, 4]) (by kernel_rfl) (by simp) ?_
  refine allReadyH_cons' rfl (fun Kn hKn => ?_) (allReadyH_cons' rfl (fun Kn hKn => ?_) AllReadyH.nil)
  · go_simp
    have SP := hid (S1.out.below (by go_grown : Below w2.heap.size w2 ((w2.alloc (.cells #[.int .i64 100, .int .i64 101, .int .i64 120, .int .i64 200, .int .i64 1000, .int .i64 99, .int .i64 1001] 3)).drew)))
    have IP : IntsAt ((w2.alloc (.cells #[.int .i64 100, .int .i64 101, .int .i64 120, .int .i64 200, .int .i64 1000, .int .i64 99, .int .i64 1001] 3)).drew) (some ⟨w2.heap.size, 0, none⟩) 7 [100, 101, 120, 200, 1000, 99, 1001] := IntsAt.below (IntsAt.lit' w2 3 [100, 101, 120, 200, 1000, 99, 1001] rfl rfl) ((Below.refl _ _).drew)
    refine hKn.out _ _ (SP.out.cell) (fun hHeldN => ?_)
    clear hKn Kn hHeld
    have hHeld := hHeldN
    clear hHeldN
    try simp only [Act.put, List.setIfInBounds_toArray, List.set_cons_zero, List.set_cons_succ]
    refine wpAnyH_ready (rs := [4]) (by kernel_rfl) (by simp) ?_
    refine allReadyH_cons' rfl (fun Kn hKn => ?_) AllReadyH.nil
    go_simp
    go_at_call 92
    refine (c_pick _ 100 24 _ (by exact SP.out.cur) (by omega) (by omega)).mono ?_
    rintro e wp ⟨⟨v, rfl, hv0, hv1⟩, hc, hg⟩
    have SQ := hid (SP.out.step hc hg)
    have IQ := hid (IP.kept hg (fun b o e e2 => by simp only [Option.some.injEq, Addr.mk.injEq] at e; have := Option.some.inj e2; omega))
    clear hc hg IP
    refine hKn.out _ _ (SQ.out.cell) (fun hHeldN => ?_)
    clear hKn Kn hHeld
    have hHeld := hHeldN
    clear hHeldN
    try simp only [Act.put, List.setIfInBounds_toArray, List.set_cons_zero, List.set_cons_succ]
    obtain ⟨k, hk⟩ : ∃ k : Nat, 5 + v.tdiv 11 = (k : Int) := ⟨(5 + v.tdiv 11).toNat, by rw [Int.tdiv_eq_ediv_of_nonneg hv0]; omega⟩
    have hk2 : 5 ≤ k ∧ k ≤ 7 := by rw [Int.tdiv_eq_ediv_of_nonneg hv0] at hk; omega
    have hw1 : IntKind.i64.wrap (v.tdiv 11) = v.tdiv 11 := IntWalk.i64_in _ (by rw [Int.tdiv_eq_ediv_of_nonneg hv0]; omega)
    have hw2 : IntKind.i64.wrap (5 + v.tdiv 11) = (k : Int) := by rw [hk]; exact IntWalk.i64_in _ (by omega)
    have hk3 : (k : Int) ≤ 7 := by omega
    clear hv0 hv1 hk
    refine wpAnyH_take' (i := 5) (v := ?_) rfl (by kernel_rfl) (by kernel_rfl) (by kernel_rfl) (fun _ _ _ h => h) (Or.inl ⟨by rfl, ?_⟩) (by assumption) ?_
    rotate_left
    · (intro w' hSw; (try dsimp only at hSw); go_simp; all_goals with_reducible rfl)
    try simp only [Act.put, List.setIfInBounds_toArray, List.set_cons_zero, List.set_cons_succ]
    refine wpAnyH_take' (i := 6) (v := ?_) rfl (by kernel_rfl) (by kernel_rfl) (by kernel_rfl) (fun _ _ _ h => h) (Or.inl ⟨by rfl, ?_⟩) (by assumption) ?_
    rotate_left
    · (intro w' hSw; (try dsimp only at hSw); go_simp; all_goals with_reducible rfl)
    try simp only [Act.put, List.setIfInBounds_toArray, List.set_cons_zero, List.set_cons_succ]
    refine wpAnyH_take' (i := 7) (v := ?_) rfl (by kernel_rfl) (by kernel_rfl) (by kernel_rfl) (fun _ _ _ h => h) (Or.inl ⟨by rfl, ?_⟩) (by assumption) ?_
    rotate_left
    · (intro w' hSw; (try dsimp only at hSw); go_simp; all_goals with_reducible rfl)
    try simp only [Act.put, List.setIfInBounds_toArray, List.set_cons_zero, List.set_cons_succ]
    refine wpAnyH_ready (rs := [8]) (by kernel_rfl) (by simp) ?_
    refine allReadyH_cons' rfl (fun Kn hKn => ?_) AllReadyH.nil
    go_simp
    go_at_call 91
    refine (c_among _ _ _ k _ ([100, 101, 120, 200, 1000, 99, 1001].take k) _ (by exact SQ.out.cur) (by omega) (by exact ints_take IQ.out (by omega)) (by omega) (by omega) (by omega)).mono ?_
    rintro e wu ⟨⟨u, rfl, hu⟩, hc, hg⟩
    have SU := hid (SQ.out.step hc hg)
    clear hc hg hu
    refine hKn.out _ _ (SU.out.cell) (fun hHeldN => ?_)
    clear hKn Kn hHeld
    have hHeld := hHeldN
    clear hHeldN
    try simp only [Act.put, List.setIfInBounds_toArray, List.set_cons_zero, List.set_cons_succ]
    have n0 : (wu).cell? ⟨w.heap.size, 0, none⟩ = some (.slice none 0 0) := by rw [cell_of_row _ _ _ _ _ (0, 0) SU.out.res]; rfl
    have g0 := frozen_of_row _ _ 0 _ _ SU.out.res
    have hrz := SU.out.rz
    refine wpAnyH_ready (rs := [9]) (by kernel_rfl) (by simp) ?_
    refine allReadyH_cons' rfl (fun Kn hKn => ?_) AllReadyH.nil
    go_simp
    have DD := hid (SU.out.fin hpr)
    refine hKn.out _ _ (DD.out.box) (fun hHeldN => ?_)
    clear hKn Kn hHeld
    have hHeld := hHeldN
    clear hHeldN
    try simp only [Act.put, List.setIfInBounds_toArray, List.set_cons_zero, List.set_cons_succ]
    clear n0 g0 hrz
    generalize (wu).setCell ⟨w.heap.size, 0, none⟩ (.slice a n c) = w9 at *
    refine wpAnyH_take' (i := 10) (v := ?_) rfl (by kernel_rfl) (by kernel_rfl) (by kernel_rfl) (fun _ _ _ h => h) (Or.inl ⟨by rfl, ?_⟩) (by assumption) ?_
    rotate_left
    · (intro w' hSw; (try dsimp only at hSw); go_simp; all_goals with_reducible rfl)
    try simp only [Act.put, List.setIfInBounds_toArray, List.set_cons_zero, List.set_cons_succ]
    refine wpAnyH_done (by kernel_rfl) ?_ _
    refine NoPanic.normal ?_
    clear hHeld
    go_wp2
    have u0 := cell_of_row _ _ 0 _ _ (0, 0) DD.out.res
    simp only [List.getElem?_toArray, List.getElem?_cons_zero] at u0
    refine bodyPost_ret (v := .tuple #[.agg #[.slice a n c], .int .i64 u]) (by simp [results, Try.results33, go_sem, *]) rfl ⟨a, n, c, L, u, rfl, ⟨DD.out.ia, hn⟩, DD.out.bel⟩
  · have SP := hid (S1.out.below ((Below.refl _ _).drew))
    go_simp
    go_at_call 92
    refine (c_pick _ 100 24 _ (by exact SP.out.cur) (by omega) (by omega)).mono ?_
    rintro e wp ⟨⟨v, rfl, hv0, hv1⟩, hc, hg⟩
    have SQ := hid (SP.out.step hc hg)
    clear hc hg
    refine hKn.out _ _ (SQ.out.cell) (fun hHeldN => ?_)
    clear hKn Kn hHeld
    have hHeld := hHeldN
    clear hHeldN
    try simp only [Act.put, List.setIfInBounds_toArray, List.set_cons_zero, List.set_cons_succ]
    obtain ⟨k, hk⟩ : ∃ k : Nat, 5 + v.tdiv 11 = (k : Int) := ⟨(5 + v.tdiv 11).toNat, by rw [Int.tdiv_eq_ediv_of_nonneg hv0]; omega⟩
    have hk2 : 5 ≤ k ∧ k ≤ 7 := by rw [Int.tdiv_eq_ediv_of_nonneg hv0] at hk; omega
    have hw1 : IntKind.i64.wrap (v.tdiv 11) = v.tdiv 11 := IntWalk.i64_in _ (by rw [Int.tdiv_eq_ediv_of_nonneg hv0]; omega)
    have hw2 : IntKind.i64.wrap (5 + v.tdiv 11) = (k : Int) := by rw [hk]; exact IntWalk.i64_in _ (by omega)
    have hk3 : (k : Int) ≤ 7 := by omega
    clear hv0 hv1 hk
    refine wpAnyH_take' (i := 5) (v := ?_) rfl (by kernel_rfl) (by kernel_rfl) (by kernel_rfl) (fun _ _ _ h => h) (Or.inl ⟨by rfl, ?_⟩) (by assumption) ?_
    rotate_left
    · (intro w' hSw; (try dsimp only at hSw); go_simp; all_goals with_reducible rfl)
    try simp only [Act.put, List.setIfInBounds_toArray, List.set_cons_zero, List.set_cons_succ]
    refine wpAnyH_take' (i := 6) (v := ?_) rfl (by kernel_rfl) (by kernel_rfl) (by kernel_rfl) (fun _ _ _ h => h) (Or.inl ⟨by rfl, ?_⟩) (by assumption) ?_
    rotate_left
    · (intro w' hSw; (try dsimp only at hSw); go_simp; all_goals with_reducible rfl)
    try simp only [Act.put, List.setIfInBounds_toArray, List.set_cons_zero, List.set_cons_succ]
    refine wpAnyH_ready (rs := [2]) (by kernel_rfl) (by simp) ?_
    refine allReadyH_cons' rfl (fun Kn hKn => ?_) AllReadyH.nil
    go_simp
    have SV := hid (SQ.out.below (by go_grown : Below wp.heap.size wp ((wp.alloc (.cells #[.int .i64 100, .int .i64 101, .int .i64 120, .int .i64 200, .int .i64 1000, .int .i64 99, .int .i64 1001] 3)))))
    have IQ := hid (show IntsAt (wp.alloc (.cells #[.int .i64 100, .int .i64 101, .int .i64 120, .int .i64 200, .int .i64 1000, .int .i64 99, .int .i64 1001] 3)) (some ⟨wp.heap.size, 0, none⟩) 7 [100, 101, 120, 200, 1000, 99, 1001] from IntsAt.lit' wp 3 [100, 101, 120, 200, 1000, 99, 1001] rfl rfl)
    have hgp := SQ.out.cur.lt
    refine hKn.out _ _ (SV.out.cell) (fun hHeldN => ?_)
    clear hKn Kn hHeld
    have hHeld := hHeldN
    clear hHeldN
    try simp only [Act.put, List.setIfInBounds_toArray, List.set_cons_zero, List.set_cons_succ]
    clear SQ
    have SQ := SV
    refine wpAnyH_take' (i := 7) (v := ?_) rfl (by kernel_rfl) (by kernel_rfl) (by kernel_rfl) (fun _ _ _ h => h) (Or.inl ⟨by rfl, ?_⟩) (by assumption) ?_
    rotate_left
    · (intro w' hSw; (try dsimp only at hSw); go_simp; all_goals with_reducible rfl)
    try simp only [Act.put, List.setIfInBounds_toArray, List.set_cons_zero, List.set_cons_succ]
    refine wpAnyH_ready (rs := [8]) (by kernel_rfl) (by simp) ?_
    refine allReadyH_cons' rfl (fun Kn hKn => ?_) AllReadyH.nil
    go_simp
    go_at_call 91
    refine (c_among _ _ _ k _ ([100, 101, 120, 200, 1000, 99, 1001].take k) _ (by exact SQ.out.cur) (by omega) (by exact ints_take IQ.out (by omega)) (by omega) (by omega) (by omega)).mono ?_
    rintro e wu ⟨⟨u, rfl, hu⟩, hc, hg⟩
    have SU := hid (SQ.out.step hc hg)
    clear hc hg hu
    refine hKn.out _ _ (SU.out.cell) (fun hHeldN => ?_)
    clear hKn Kn hHeld
    have hHeld := hHeldN
    clear hHeldN
    try simp only [Act.put, List.setIfInBounds_toArray, List.set_cons_zero, List.set_cons_succ]
    have n0 : (wu).cell? ⟨w.heap.size, 0, none⟩ = some (.slice none 0 0) := by rw [cell_of_row _ _ _ _ _ (0, 0) SU.out.res]; rfl
    have g0 := frozen_of_row _ _ 0 _ _ SU.out.res
    have hrz := SU.out.rz
    refine wpAnyH_ready (rs := [9]) (by kernel_rfl) (by simp) ?_
    refine allReadyH_cons' rfl (fun Kn hKn => ?_) AllReadyH.nil
    go_simp
    have DD := hid (SU.out.fin hpr)
    refine hKn.out _ _ (DD.out.box) (fun hHeldN => ?_)
    clear hKn Kn hHeld
    have hHeld := hHeldN
    clear hHeldN
    try simp only [Act.put, List.setIfInBounds_toArray, List.set_cons_zero, List.set_cons_succ]
    clear n0 g0 hrz
    generalize (wu).setCell ⟨w.heap.size, 0, none⟩ (.slice a n c) = w9 at *
    refine wpAnyH_take' (i := 10) (v := ?_) rfl (by kernel_rfl) (by kernel_rfl) (by kernel_rfl) (fun _ _ _ h => h) (Or.inl ⟨by rfl, ?_⟩) (by assumption) ?_
    rotate_left
    · (intro w' hSw; (try dsimp only at hSw); go_simp; all_goals with_reducible rfl)
    try simp only [Act.put, List.setIfInBounds_toArray, List.set_cons_zero, List.set_cons_succ]
    refine wpAnyH_done (by kernel_rfl) ?_ _
    refine NoPanic.normal ?_
    clear hHeld
    go_wp2
    have u0 := cell_of_row _ _ 0 _ _ (0, 0) DD.out.res
    simp only [List.getElem?_toArray, List.getElem?_cons_zero] at u0
    refine bodyPost_ret (v := .tuple #[.agg #[.slice a n c], .int .i64 u]) (by simp [results, Try.results33, go_sem, *]) rfl ⟨a, n, c, L, u, rfl, ⟨DD.out.ia, hn⟩, DD.out.bel⟩

set_option maxRecDepth 100000 in
set_option maxHeartbeats 8000000 in
theorem s_DrawQuietestHours (a0 : Option Addr) (n0 c0 : Nat) (w : World) (h : BytesAt w a0 n0) :
    Calls Try.prog 34 #[.slice a0 n0 c0] w fun e w' => ∃ (a : Option Addr) (n c : Nat) (L : List Int) (q : Int), e = .returned (.tuple #[.agg #[.slice a n c], .int .i64 q]) ∧ (IntsAt w' a n L ∧ n ≤ 24) ∧ Below w.heap.size w w' := by
  have H := hid h
  clear h
  go_enter Try.func34, Try.ntmps34
  go_upto_region 2 with fail
  have C0 := hid (Cur.start (c := c0) (g := w.heap.size + 1) (H.out.below (by go_grown : Below w.heap.size w (w.alloc (.cells #[.slice none 0 0] 26)))) (by simp))
  have R0 : ((w.alloc (.cells #[.slice none 0 0] 26)).alloc (.cells #[.slice a0 n0 c0, .int .i64 0, .int .u64 0] 85)).heap[w.heap.size]? = some (.cells #[.slice none 0 0] 26 (0, 0)) := (Below.heap_alloc _ _ _ (by simp)).trans (heap_alloc_new _ _)
  have B0 : Below w.heap.size w ((w.alloc (.cells #[.slice none 0 0] 26)).alloc (.cells #[.slice a0 n0 c0, .int .i64 0, .int .u64 0] 85)) := by go_grown
  have hz0 : ((w.alloc (.cells #[.slice none 0 0] 26)).alloc (.cells #[.slice a0 n0 c0, .int .i64 0, .int .u64 0] 85)).heap.size = w.heap.size + 1 + 1 := by simp
  generalize (w.alloc (.cells #[.slice none 0 0] 26)).alloc (.cells #[.slice a0 n0 c0, .int .i64 0, .int .u64 0] 85) = w0 at *
  go_wp2_with fail
  refine (c_profile _ 0 _ C0.out (by omega)).mono ?_
  rintro e w1 ⟨⟨a, n, c, rfl, hn, L, hI, hfr⟩, hc1, hg1⟩
  have hz1 := hg1.size
  have S1 := hid (show DB w (w1.alloc (.cells #[.slice a n c] 26)) (w.heap.size + 1) 100 w1.heap.size w.heap.size a n c L from
    ⟨hc1.below (by go_grown), (B0.grown hg1 (by omega) (fun q e => by have := Option.some.inj e; omega)).alloc (by omega) _, hI.below (by go_grown), heap_alloc_new _ _,
      (Below.heap_alloc _ _ _ (by omega)).trans ((hg1.block w.heap.size (by omega) (fun e => by have := Option.some.inj e; omega)).trans R0), by omega, by omega, by omega, fun b o e => by have := hfr b o e; omega⟩)
  have hpr : w1.heap.size ≠ w.heap.size := by omega
  clear C0 R0 B0 hI hfr hc1 hg1
  go_upto_region 3 with fail
  generalize w1.alloc (.cells #[.slice a n c] 26) = w2 at *
  generalize w1.heap.size = pb at *
  have m0 := S1.out.cell
  have hgz := S1.out.cur.lt
  refine wp_region_noPanic ?_
  refine wp_region_held_drew (S := (fun w' => w'.cell? ⟨pb, 0, none⟩ = some (.slice a n c))) (by kernel_rfl) (by exact m0) (fun hHeld => ?_)
  refine wpAnyH_take' (i := 0) (v := ?_) rfl (by kernel_rfl) (by kernel_rfl) (by kernel_rfl) (fun _ _ _ h => h) (Or.inl ⟨by rfl, ?_⟩) (by assumption) ?_
  rotate_left
  · (intro w' hSw; (try dsimp only at hSw); go_simp; all_goals with_reducible rfl)
  try simp only [Act.put, List.setIfInBounds_toArray, List.set_cons_zero, List.set_cons_succ]
  refine wpAnyH_take' (i := 1) (v := ?_) rfl (by kernel_rfl) (by kernel_rfl) (by kernel_rfl) (fun _ _ _ h => h) (Or.inl ⟨by rfl, ?_⟩) (by assumption) ?_
  rotate_left
  · (intro w' hSw; (try dsimp only at hSw); go_simp; all_goals with_reducible rfl)
  try simp only [Act.put, List.setIfInBounds_toArray, List.set_cons_zero, List.set_cons_succ]
  refine wpAnyH_take' (i := 3) (v := ?_) rfl (by kernel_rfl) (by kernel_rfl) (by kernel_rfl) (fun _ _ _ h => h) (Or.inl ⟨by rfl, ?_⟩) (by assumption) ?_
  rotate_left
  · (intro w' hSw; (try dsimp only at hSw); go_simp; all_goals with_reducible rfl)
  try simp only [Act.put, List.setIfInBounds_toArray, List.set_cons_zero, List.set_cons_succ]
  refine wpAnyH_ready (rs := [2, 4]) (by kernel_rfl) (by simp) ?_
  refine allReadyH_cons' rfl (fun Kn hKn => ?_) (allReadyH_cons' rfl (fun Kn hKn => ?_) AllReadyH.nil)
  · go_simp
    have SP := hid (S1.out.below (by go_grown : Below w2.heap.size w2 ((w2.alloc (.cells #[.int .i64 1, .int .i64 2, .int .i64 5, .int .i64 23, .int .i64 24, .int .i64 0, .int .i64 25] 3)).drew)))
    have IP : IntsAt ((w2.alloc (.cells #[.int .i64 1, .int .i64 2, .int .i64 5, .int .i64 23, .int .i64 24, .int .i64 0, .int .i64 25] 3)).drew) (some ⟨w2.heap.size, 0, none⟩) 7 [1, 2, 5, 23, 24, 0, 25] := IntsAt.below (IntsAt.lit' w2 3 [1, 2, 5, 23, 24, 0, 25] rfl rfl) ((Below.refl _ _).drew)
    refine hKn.out _ _ (SP.out.cell) (fun hHeldN => ?_)
    clear hKn Kn hHeld
    have hHeld := hHeldN
    clear hHeldN
    try simp only [Act.put, List.setIfInBounds_toArray, List.set_cons_zero, List.set_cons_succ]
    refine wpAnyH_ready (rs := [4]) (by kernel_rfl) (by simp) ?_
    refine allReadyH_cons' rfl (fun Kn hKn => ?_) AllReadyH.nil
    go_simp
    go_at_call 92
    refine (c_pick _ 100 24 _ (by exact SP.out.cur) (by omega) (by omega)).mono ?_
    rintro e wp ⟨⟨v, rfl, hv0, hv1⟩, hc, hg⟩
    have SQ := hid (SP.out.step hc hg)
    have IQ := hid (IP.kept hg (fun b o e e2 => by simp only [Option.some.injEq, Addr.mk.injEq] at e; have := Option.some.inj e2; omega))
    clear hc hg IP
    refine hKn.out _ _ (SQ.out.cell) (fun hHeldN => ?_)
    clear hKn Kn hHeld
    have hHeld := hHeldN
    clear hHeldN
    try simp only [Act.put, List.setIfInBounds_toArray, List.set_cons_zero, List.set_cons_succ]
    obtain ⟨k, hk⟩ : ∃ k : Nat, 5 + v.tdiv 11 = (k : Int) := ⟨(5 + v.tdiv 11).toNat, by rw [Int.tdiv_eq_ediv_of_nonneg hv0]; omega⟩
    have hk2 : 5 ≤ k ∧ k ≤ 7 := by rw [Int.tdiv_eq_ediv_of_nonneg hv0] at hk; omega
    have hw1 : IntKind.i64.wrap (v.tdiv 11) = v.tdiv 11 := IntWalk.i64_in _ (by rw [Int.tdiv_eq_ediv_of_nonneg hv0]; omega)
    have hw2 : IntKind.i64.wrap (5 + v.tdiv 11) = (k : Int) := by rw [hk]; exact IntWalk.i64_in _ (by omega)
    have hk3 : (k : Int) ≤ 7 := by omega
    clear hv0 hv1 hk
    refine wpAnyH_take' (i := 5) (v := ?_) rfl (by kernel_rfl) (by kernel_rfl) (by kernel_rfl) (fun _ _ _ h => h) (Or.inl ⟨by rfl, ?_⟩) (by assumption) ?_
    rotate_left
    · (intro w' hSw; (try dsimp only at hSw); go_simp; all_goals with_reducible rfl)
    try simp only [Act.put, List.setIfInBounds_toArray, List.set_cons_zero, List.set_cons_succ]
    refine wpAnyH_take' (i := 6) (v := ?_) rfl (by kernel_rfl) (by kernel_rfl) (by kernel_rfl) (fun _ _ _ h => h) (Or.inl ⟨by rfl, ?_⟩) (by assumption) ?_
    rotate_left
    · (intro w' hSw; (try dsimp only at hSw); go_simp; all_goals with_reducible rfl)
    try simp only [Act.put, List.setIfInBounds_toArray, List.set_cons_zero, List.set_cons_succ]
    refine wpAnyH_take' (i := 7) (v := ?_) rfl (by kernel_rfl) (by kernel_rfl) (by kernel_rfl) (fun _ _ _ h => h) (Or.inl ⟨by rfl, ?_⟩) (by assumption) ?_
    rotate_left
    · (intro w' hSw; (try dsimp only at hSw); go_simp; all_goals with_reducible rfl)
    try simp only [Act.put, List.setIfInBounds_toArray, List.set_cons_zero, List.set_cons_succ]
    refine wpAnyH_ready (rs := [8]) (by kernel_rfl) (by simp) ?_
    refine allReadyH_cons' rfl (fun Kn hKn => ?_) AllReadyH.nil
    go_simp
    go_at_call 91
    refine (c_among _ _ _ k _ ([1, 2, 5, 23, 24, 0, 25].take k) _ (by exact SQ.out.cur) (by omega) (by exact ints_take IQ.out (by omega)) (by omega) (by omega) (by omega)).mono ?_
    rintro e wu ⟨⟨u, rfl, hu⟩, hc, hg⟩
    have SU := hid (SQ.out.step hc hg)
    clear hc hg hu
    refine hKn.out _ _ (SU.out.cell) (fun hHeldN => ?_)
    clear hKn Kn hHeld
    have hHeld := hHeldN
    clear hHeldN
    try simp only [Act.put, List.setIfInBounds_toArray, List.set_cons_zero, List.set_cons_succ]
    have n0 : (wu).cell? ⟨w.heap.size, 0, none⟩ = some (.slice none 0 0) := by rw [cell_of_row _ _ _ _ _ (0, 0) SU.out.res]; rfl
    have g0 := frozen_of_row _ _ 0 _ _ SU.out.res
    have hrz := SU.out.rz
    refine wpAnyH_ready (rs := [9]) (by kernel_rfl) (by simp) ?_
    refine allReadyH_cons' rfl (fun Kn hKn => ?_) AllReadyH.nil
    go_simp
    have DD := hid (SU.out.fin hpr)
    refine hKn.out _ _ (DD.out.box) (fun hHeldN => ?_)
    clear hKn Kn hHeld
    have hHeld := hHeldN
    clear hHeldN
    try simp only [Act.put, List.setIfInBounds_toArray, List.set_cons_zero, List.set_cons_succ]
    clear n0 g0 hrz
    generalize (wu).setCell ⟨w.heap.size, 0, none⟩ (.slice a n c) = w9 at *
    refine wpAnyH_take' (i := 10) (v := ?_) rfl (by kernel_rfl) (by kernel_rfl) (by kernel_rfl) (fun _ _ _ h => h) (Or.inl ⟨by rfl, ?_⟩) (by assumption) ?_
    rotate_left
    · (intro w' hSw; (try dsimp only at hSw); go_simp; all_goals with_reducible rfl)
    try simp only [Act.put, List.setIfInBounds_toArray, List.set_cons_zero, List.set_cons_succ]
    refine wpAnyH_done (by kernel_rfl) ?_ _
    refine NoPanic.normal ?_
    clear hHeld
    go_wp2
    have u0 := cell_of_row _ _ 0 _ _ (0, 0) DD.out.res
    simp only [List.getElem?_toArray, List.getElem?_cons_zero] at u0
    refine bodyPost_ret (v := .tuple #[.agg #[.slice a n c], .int .i64 u]) (by simp [results, Try.results34, go_sem, *]) rfl ⟨a, n, c, L, u, rfl, ⟨DD.out.ia, hn⟩, DD.out.bel⟩
  · have SP := hid (S1.out.below ((Below.refl _ _).drew))
    go_simp
    go_at_call 92
    refine (c_pick _ 100 24 _ (by exact SP.out.cur) (by omega) (by omega)).mono ?_
    rintro e wp ⟨⟨v, rfl, hv0, hv1⟩, hc, hg⟩
    have SQ := hid (SP.out.step hc hg)
    clear hc hg
    refine hKn.out _ _ (SQ.out.cell) (fun hHeldN => ?_)
    clear hKn Kn hHeld
    have hHeld := hHeldN
    clear hHeldN
    try simp only [Act.put, List.setIfInBounds_toArray, List.set_cons_zero, List.set_cons_succ]
    obtain ⟨k, hk⟩ : ∃ k : Nat, 5 + v.tdiv 11 = (k : Int) := ⟨(5 + v.tdiv 11).toNat, by rw [Int.tdiv_eq_ediv_of_nonneg hv0]; omega⟩
    have hk2 : 5 ≤ k ∧ k ≤ 7 := by rw [Int.tdiv_eq_ediv_of_nonneg hv0] at hk; omega
    have hw1 : IntKind.i64.wrap (v.tdiv 11) = v.tdiv 11 := IntWalk.i64_in _ (by rw [Int.tdiv_eq_ediv_of_nonneg hv0]; omega)
    have hw2 : IntKind.i64.wrap (5 + v.tdiv 11) = (k : Int) := by rw [hk]; exact IntWalk.i64_in _ (by omega)
    have hk3 : (k : Int) ≤ 7 := by omega
    clear hv0 hv1 hk
    refine wpAnyH_take' (i := 5) (v := ?_) rfl (by kernel_rfl) (by kernel_rfl) (by kernel_rfl) (fun _ _ _ h => h) (Or.inl ⟨by rfl, ?_⟩) (by assumption) ?_
    rotate_left
    · (intro w' hSw; (try dsimp only at hSw); go_simp; all_goals with_reducible rfl)
    try simp only [Act.put, List.setIfInBounds_toArray, List.set_cons_zero, List.set_cons_succ]
    refine wpAnyH_take' (i := 6) (v := ?_) rfl (by kernel_rfl) (by kernel_rfl) (by kernel_rfl) (fun _ _ _ h => h) (Or.inl ⟨by rfl, ?_⟩) (by assumption) ?_
    rotate_left
    · (intro w' hSw; (try dsimp only at hSw); go_simp; all_goals with_reducible rfl)
    try simp only [Act.put, List.setIfInBounds_toArray, List.set_cons_zero, List.set_cons_succ]
    refine wpAnyH_ready (rs := [2]) (by kernel_rfl) (by simp) ?_
    refine allReadyH_cons' rfl (fun Kn hKn => ?_) AllReadyH.nil
    go_simp
    have SV := hid (SQ.out.below (by go_grown : Below wp.heap.size wp ((wp.alloc (.cells #[.int .i64 1, .int .i64 2, .int .i64 5, .int .i64 23, .int .i64 24, .int .i64 0, .int .i64 25] 3)))))
    have IQ := hid (show IntsAt (wp.alloc (.cells #[.int .i64 1, .int .i64 2, .int .i64 5, .int .i64 23, .int .i64 24, .int .i64 0, .int .i64 25] 3)) (some ⟨wp.heap.size, 0, none⟩) 7 [1, 2, 5, 23, 24, 0, 25] from IntsAt.lit' wp 3 [1, 2, 5, 23, 24, 0, 25] rfl rfl)
    have hgp := SQ.out.cur.lt
    refine hKn.out _ _ (SV.out.cell) (fun hHeldN => ?_)
    clear hKn Kn hHeld
    have hHeld := hHeldN
    clear hHeldN
    try simp only [Act.put, List.setIfInBounds_toArray, List.set_cons_zero, List.set_cons_succ]
    clear SQ
    have SQ := SV
    refine wpAnyH_take' (i := 7) (v := ?_) rfl (by kernel_rfl) (by kernel_rfl) (by kernel_rfl) (fun _ _ _ h => h) (Or.inl ⟨by rfl, ?_⟩) (by assumption) ?_
    rotate_left
    · (intro w' hSw; (try dsimp only at hSw); go_simp; all_goals with_reducible rfl)
    try simp only [Act.put, List.setIfInBounds_toArray, List.set_cons_zero, List.set_cons_succ]
    refine wpAnyH_ready (rs := [8]) (by kernel_rfl) (by simp) ?_
    refine allReadyH_cons' rfl (fun Kn hKn => ?_) AllReadyH.nil
    go_simp
    go_at_call 91
    refine (c_among _ _ _ k _ ([1, 2, 5, 23, 24, 0, 25].take k) _ (by exact SQ.out.cur) (by omega) (by exact ints_take IQ.out (by omega)) (by omega) (by omega) (by omega)).mono ?_
    rintro e wu ⟨⟨u, rfl, hu⟩, hc, hg⟩
    have SU := hid (SQ.out.step hc hg)
    clear hc hg hu
    refine hKn.out _ _ (SU.out.cell) (fun hHeldN => ?_)
    clear hKn Kn hHeld
    have hHeld := hHeldN
    clear hHeldN
    try simp only [Act.put, List.setIfInBounds_toArray, List.set_cons_zero, List.set_cons_succ]
    have n0 : (wu).cell? ⟨w.heap.size, 0, none⟩ = some (.slice none 0 0) := by rw [cell_of_row _ _ _ _ _ (0, 0) SU.out.res]; rfl
    have g0 := frozen_of_row _ _ 0 _ _ SU.out.res
    have hrz := SU.out.rz
    refine wpAnyH_ready (rs := [9]) (by kernel_rfl) (by simp) ?_
    refine allReadyH_cons' rfl (fun Kn hKn => ?_) AllReadyH.nil
    go_simp
    have DD := hid (SU.out.fin hpr)
    refine hKn.out _ _ (DD.out.box) (fun hHeldN => ?_)
    clear hKn Kn hHeld
    have hHeld := hHeldN
    clear hHeldN
    try simp only [Act.put, List.setIfInBounds_toArray, List.set_cons_zero, List.set_cons_succ]
    clear n0 g0 hrz
    generalize (wu).setCell ⟨w.heap.size, 0, none⟩ (.slice a n c) = w9 at *
    refine wpAnyH_take' (i := 10) (v := ?_) rfl (by kernel_rfl) (by kernel_rfl) (by kernel_rfl) (fun _ _ _ h => h) (Or.inl ⟨by rfl, ?_⟩) (by assumption) ?_
    rotate_left
    · (intro w' hSw; (try dsimp only at hSw); go_simp; all_goals with_reducible rfl)
    try simp only [Act.put, List.setIfInBounds_toArray, List.set_cons_zero, List.set_cons_succ]
    refine wpAnyH_done (by kernel_rfl) ?_ _
    refine NoPanic.normal ?_
    clear hHeld
    go_wp2
    have u0 := cell_of_row _ _ 0 _ _ (0, 0) DD.out.res
    simp only [List.getElem?_toArray, List.getElem?_cons_zero] at u0
    refine bodyPost_ret (v := .tuple #[.agg #[.slice a n c], .int .i64 u]) (by simp [results, Try.results34, go_sem, *]) rfl ⟨a, n, c, L, u, rfl, ⟨DD.out.ia, hn⟩, DD.out.bel⟩

set_option maxRecDepth 100000 in
set_option maxHeartbeats 8000000 in
theorem s_DrawIsValidProfile (a0 : Option Addr) (n0 c0 : Nat) (w : World) (h : BytesAt w a0 n0) :
    Calls Try.prog 93 #[.slice a0 n0 c0] w fun e w' => ∃ (a : Option Addr) (n c : Nat) (L : List Int), e = .returned (.agg #[.slice a n c]) ∧ (IntsAt w' a n L ∧ n ≤ 24 ∧ ∀ b o, a = some ⟨b, o, none⟩ → w.heap.size ≤ b) ∧ Below w.heap.size w w' := by
  have H := hid h
  clear h
  go_enter Try.func93, Try.ntmps93
  go_upto_region 2 with fail
  have C0 := hid (Cur.start (c := c0) (g := w.heap.size + 1) (H.out.below (by go_grown : Below w.heap.size w (w.alloc (.cells #[.slice none 0 0] 26)))) (by simp))
  have R0 : ((w.alloc (.cells #[.slice none 0 0] 26)).alloc (.cells #[.slice a0 n0 c0, .int .i64 0, .int .u64 0] 85)).heap[w.heap.size]? = some (.cells #[.slice none 0 0] 26 (0, 0)) := (Below.heap_alloc _ _ _ (by simp)).trans (heap_alloc_new _ _)
  have B0 : Below w.heap.size w ((w.alloc (.cells #[.slice none 0 0] 26)).alloc (.cells #[.slice a0 n0 c0, .int .i64 0, .int .u64 0] 85)) := by go_grown
  have hz0 : ((w.alloc (.cells #[.slice none 0 0] 26)).alloc (.cells #[.slice a0 n0 c0, .int .i64 0, .int .u64 0] 85)).heap.size = w.heap.size + 1 + 1 := by simp
  generalize (w.alloc (.cells #[.slice none 0 0] 26)).alloc (.cells #[.slice a0 n0 c0, .int .i64 0, .int .u64 0] 85) = w0 at *
  go_wp2_with fail
  refine (c_profile _ 0 _ C0.out (by omega)).mono ?_
  rintro e w1 ⟨⟨a, n, c, rfl, hn, L, hI, hfr⟩, hc1, hg1⟩
  have HR := hid ((hg1.block w.heap.size (by omega) (fun e => by have := Option.some.inj e; omega)).trans R0)
  have HB := hid (B0.grown hg1 (by omega) (fun q e => by have := Option.some.inj e; omega))
  have HI := hid hI
  have HF := hid (show ∀ b o, a = some ⟨b, o, none⟩ → w.heap.size < b from fun b o e => by have := hfr b o e; omega)
  clear C0 R0 B0 hI hfr hc1 hg1 hz0
  have n0 : w1.cell? ⟨w.heap.size, 0, none⟩ = some (.slice none 0 0) := by rw [cell_of_row _ _ _ _ _ (0, 0) HR.out]; rfl
  have g0 := frozen_of_row _ _ 0 _ _ HR.out
  have hz := (Array.getElem?_eq_some_iff.1 HR.out).1
  go_wp2
  have e7 := heap_setCell_same _ _ 0 _ _ (.slice a n c) HR.out
  have u0 := cell_of_row _ _ 0 _ _ (0, 0) e7
  simp only [List.setIfInBounds_toArray, List.set_cons_zero, List.getElem?_toArray, List.getElem?_cons_zero] at u0
  refine bodyPost_ret (v := .agg #[.slice a n c]) (by simp [results, Try.results93, go_sem, *]) rfl ⟨a, n, c, L, rfl, ⟨HI.out.kept (grown_setCell w1 w.heap.size 0 _) (fun b o e e2 => by have := HF.out b o e; have := Option.some.inj e2; omega), hn, fun b o e => by have := HF.out b o e; omega⟩, HB.out.setCell (Nat.le_refl _) _⟩

set_option maxRecDepth 100000 in
set_option maxHeartbeats 8000000 in
theorem s_DrawPeakHour (a0 : Option Addr) (n0 c0 : Nat) (w : World) (h : BytesAt w a0 n0) :
    Calls Try.prog 37 #[.slice a0 n0 c0] w fun e w' => ∃ (a : Option Addr) (n c : Nat) (L : List Int), e = .returned (.agg #[.slice a n c]) ∧ (IntsAt w' a n L ∧ n ≤ 24 ∧ ∀ b o, a = some ⟨b, o, none⟩ → w.heap.size ≤ b) ∧ Below w.heap.size w w' := by
  have H := hid h
  clear h
  go_enter Try.func37, Try.ntmps37
  go_wp2_with fail
  refine (s_DrawIsValidProfile _ _ _ _ (H.out.below (by go_grown))).mono ?_
  rintro e w1 ⟨a, n, c, L, rfl, ⟨hI, hn, hfr⟩, hb⟩
  have HR := hid ((hb.block w.heap.size (by simp)).trans (heap_alloc_new _ _))
  have HB := hid (bstep (by go_grown) hb : Below w.heap.size w w1)
  have HI := hid hI
  have HF := hid (show ∀ b o, a = some ⟨b, o, none⟩ → w.heap.size < b from fun b o e => by have := hfr b o e; simp at this; omega)
  clear hI hfr hb
  have n0 : w1.cell? ⟨w.heap.size, 0, none⟩ = some (.slice none 0 0) := by rw [cell_of_row _ _ _ _ _ (0, 0) HR.out]; rfl
  have g0 := frozen_of_row _ _ 0 _ _ HR.out
  have hz := (Array.getElem?_eq_some_iff.1 HR.out).1
  go_wp2
  have e7 := heap_setCell_same _ _ 0 _ _ (.slice a n c) HR.out
  have u0 := cell_of_row _ _ 0 _ _ (0, 0) e7
  simp only [List.setIfInBounds_toArray, List.set_cons_zero, List.getElem?_toArray, List.getElem?_cons_zero] at u0
  refine bodyPost_ret (v := .agg #[.slice a n c]) (by simp [results, Try.results37, go_sem, *]) rfl ⟨a, n, c, L, rfl, ⟨HI.out.kept (grown_setCell w1 w.heap.size 0 _) (fun b o e e2 => by have := HF.out b o e; have := Option.some.inj e2; omega), hn, fun b o e => by have := HF.out b o e; omega⟩, HB.out.setCell (Nat.le_refl _) _⟩

end Go.Proofs.Ytpmffboojkfpdaa

