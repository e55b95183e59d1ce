/-
  Texts of this claim, joined: DrawP, ProfK.
-/
import Derived.Test.YtpmffboojkfpdaaPr4
/-
  The draws of profiles.
-/
set_option linter.unusedVariables false
set_option linter.unusedSimpArgs false
namespace Go.Proofs.Ytpmffboojkfpdaa
open Go.RowKit

/-- A drawn profile in its box pb, the result's place rb, the cursor. -/
structure DB (w W : World) (g K pb rb : Nat) (a : Option Addr) (n c : Nat) (L : List Int) : Prop where
  cur : Cur W g K
  bel : Below w.heap.size w W
  ia : IntsAt W a n L
  box : W.heap[pb]? = some (.cells #[.slice a n c] 26 (0, 0))
  res : W.heap[rb]? = some (.cells #[.slice none 0 0] 26 (0, 0))
  lo : w.heap.size ≤ g ∧ w.heap.size ≤ rb
  pg : pb ≠ g
  rg : rb ≠ g
  fr : ∀ b o, a = some ⟨b, o, none⟩ → b ≠ g ∧ b ≠ rb
section
variable {w W W' : World} {g K pb rb n c : Nat} {a : Option Addr} {L : List Int}
theorem DB.pz (h : DB w W g K pb rb a n c L) : pb < W.heap.size := (Array.getElem?_eq_some_iff.1 h.box).1
theorem DB.rz (h : DB w W g K pb rb a n c L) : rb < W.heap.size := (Array.getElem?_eq_some_iff.1 h.res).1
theorem DB.step {K' : Nat} (h : DB w W g K pb rb a n c L) (hc : Cur W' g K') (hg : W.grownBy W' (some g)) : DB w W' g K' pb rb a n c L :=
  ⟨hc, h.bel.grown hg h.bel.size (fun q e => by have := h.lo.1; have := Option.some.inj e; omega), h.ia.kept hg (fun b o e e2 => (h.fr b o e).1 (Option.some.inj e2)),
    (hg.block pb h.pz (fun e => h.pg (Option.some.inj e))).trans h.box, (hg.block rb h.rz (fun e => h.rg (Option.some.inj e))).trans h.res, h.lo, h.pg, h.rg, h.fr⟩
theorem DB.below (h : DB w W g K pb rb a n c L) (hb : Below W.heap.size W W') : DB w W' g K pb rb a n c L := h.step (h.cur.below hb) (grown_of_below hb _)
theorem DB.cell (h : DB w W g K pb rb a n c L) : W.cell? ⟨pb, 0, none⟩ = some (.slice a n c) := by rw [cell_of_row W _ _ _ _ (0, 0) h.box]; rfl
end
/-- The result is laid. -/
structure DF (w W : World) (pb rb : Nat) (a : Option Addr) (n c : Nat) (L : List Int) : Prop where
  bel : Below w.heap.size w W
  ia : IntsAt W a n L
  box : W.cell? ⟨pb, 0, none⟩ = some (.slice a n c)
  res : W.heap[rb]? = some (.cells #[.slice a n c] 26 (0, 0))
theorem DB.fin {w W : World} {g K pb rb n c : Nat} {a : Option Addr} {L : List Int} (h : DB w W g K pb rb a n c L) (hpr : pb ≠ rb) : DF w (W.setCell ⟨rb, 0, none⟩ (.slice a n c)) pb rb a n c L := by
  refine ⟨h.bel.setCell h.lo.2 _, h.ia.kept (grown_setCell W rb 0 _) (fun b o e e2 => (h.fr b o e).2 (Option.some.inj e2)), ?_, ?_⟩
  · rw [World.cell?_setCell_far _ _ _ _ (fun e => hpr e.symm)]
    exact h.cell
  · have e := heap_setCell_same _ _ 0 _ _ (.slice a n c) h.res
    simpa using e

set_option maxRecDepth 100000 in
set_option maxHeartbeats 8000000 in
theorem s_DrawShiftProfile (a0 : Option Addr) (n0 c0 : Nat) (w : World) (h : BytesAt w a0 n0) :
    Calls Try.prog 29 #[.slice a0 n0 c0] w fun e w' => ∃ (a : Option Addr) (n c : Nat) (L : List Int) (q : Int), e = .returned (.tuple #[.agg #[.slice a n c], .int .i64 q]) ∧ (IntsAt w' a n L ∧ n ≤ 24) ∧ Below w.heap.size w w' := by
  have H := hid h
  clear h
  go_enter Try.func29, Try.ntmps29
  go_upto_region 2 with fail
  have C0 := hid (Cur.start (c := c0) (g := w.heap.size + 1) (H.out.below (by go_grown : Below w.heap.size w (w.alloc (.cells #[.slice none 0 0] 26)))) (by simp))
  have R0 : ((w.alloc (.cells #[.slice none 0 0] 26)).alloc (.cells #[.slice a0 n0 c0, .int .i64 0, .int .u64 0] 85)).heap[w.heap.size]? = some (.cells #[.slice none 0 0] 26 (0, 0)) := (Below.heap_alloc _ _ _ (by simp)).trans (heap_alloc_new _ _)
  have B0 : Below w.heap.size w ((w.alloc (.cells #[.slice none 0 0] 26)).alloc (.cells #[.slice a0 n0 c0, .int .i64 0, .int .u64 0] 85)) := by go_grown
  have hz0 : ((w.alloc (.cells #[.slice none 0 0] 26)).alloc (.cells #[.slice a0 n0 c0, .int .i64 0, .int .u64 0] 85)).heap.size = w.heap.size + 1 + 1 := by simp
  generalize (w.alloc (.cells #[.slice none 0 0] 26)).alloc (.cells #[.slice a0 n0 c0, .int .i64 0, .int .u64 0] 85) = w0 at *
  go_wp2_with fail
  refine (c_profile _ 0 _ C0.out (by omega)).mono ?_
  rintro e w1 ⟨⟨a, n, c, rfl, hn, L, hI, hfr⟩, hc1, hg1⟩
  have hz1 := hg1.size
  have S1 := hid (show DB w (w1.alloc (.cells #[.slice a n c] 26)) (w.heap.size + 1) 100 w1.heap.size w.heap.size a n c L from
    ⟨hc1.below (by go_grown), (B0.grown hg1 (by omega) (fun q e => by have := Option.some.inj e; omega)).alloc (by omega) _, hI.below (by go_grown), heap_alloc_new _ _,
      (Below.heap_alloc _ _ _ (by omega)).trans ((hg1.block w.heap.size (by omega) (fun e => by have := Option.some.inj e; omega)).trans R0), by omega, by omega, by omega, fun b o e => by have := hfr b o e; omega⟩)
  have hpr : w1.heap.size ≠ w.heap.size := by omega
  clear C0 R0 B0 hI hfr hc1 hg1
  go_upto_region 3 with fail
  generalize w1.alloc (.cells #[.slice a n c] 26) = w2 at *
  generalize w1.heap.size = pb at *
  have m0 := S1.out.cell
  refine wp_region_noPanic ?_
  refine wp_region_held_drew (S := (fun w' => w'.cell? ⟨pb, 0, none⟩ = some (.slice a n c))) (by kernel_rfl) (by exact m0) (fun hHeld => ?_)
  refine wpAnyH_take' (i := 0) (v := ?_) rfl (by kernel_rfl) (by kernel_rfl) (by kernel_rfl) (fun _ _ _ h => h) (Or.inl ⟨by rfl, ?_⟩) (by assumption) ?_
  rotate_left
  · (intro w' hSw; (try dsimp only at hSw); go_simp; all_goals with_reducible rfl)
  try simp only [Act.put, List.setIfInBounds_toArray, List.set_cons_zero, List.set_cons_succ]
  refine wpAnyH_take' (i := 1) (v := ?_) rfl (by kernel_rfl) (by kernel_rfl) (by kernel_rfl) (fun _ _ _ h => h) (Or.inl ⟨by rfl, ?_⟩) (by assumption) ?_
  rotate_left
  · (intro w' hSw; (try dsimp only at hSw); go_simp; all_goals with_reducible rfl)
  try simp only [Act.put, List.setIfInBounds_toArray, List.set_cons_zero, List.set_cons_succ]
  refine wpAnyH_ready (rs := [2]) (by kernel_rfl) (by simp) ?_
  refine allReadyH_cons' rfl (fun Kn hKn => ?_) AllReadyH.nil
  go_simp
  go_at_call 87
  refine (c_hour6 _ 100 _ (by exact (S1.out.below ((Below.refl _ _).drew)).cur) (by omega)).mono ?_
  rintro e w3 ⟨⟨q, rfl⟩, hc, hg⟩
  have S3 := hid ((S1.out.below ((Below.refl _ _).drew)).step hc hg)
  clear hc hg
  refine hKn.out _ _ (S3.out.cell) (fun hHeldN => ?_)
  clear hKn Kn hHeld
  have hHeld := hHeldN
  clear hHeldN
  try simp only [Act.put, List.setIfInBounds_toArray, List.set_cons_zero, List.set_cons_succ]
  have n0 : (w3).cell? ⟨w.heap.size, 0, none⟩ = some (.slice none 0 0) := by rw [cell_of_row _ _ _ _ _ (0, 0) S3.out.res]; rfl
  have g0 := frozen_of_row _ _ 0 _ _ S3.out.res
  have hrz := S3.out.rz
  refine wpAnyH_ready (rs := [3]) (by kernel_rfl) (by simp) ?_
  refine allReadyH_cons' rfl (fun Kn hKn => ?_) AllReadyH.nil
  go_simp
  have DD := hid (S3.out.fin hpr)
  refine hKn.out _ _ (DD.out.box) (fun hHeldN => ?_)
  clear hKn Kn hHeld
  have hHeld := hHeldN
  clear hHeldN
  try simp only [Act.put, List.setIfInBounds_toArray, List.set_cons_zero, List.set_cons_succ]
  clear n0 g0 hrz
  generalize (w3).setCell ⟨w.heap.size, 0, none⟩ (.slice a n c) = w4 at *
  refine wpAnyH_take' (i := 4) (v := ?_) rfl (by kernel_rfl) (by kernel_rfl) (by kernel_rfl) (fun _ _ _ h => h) (Or.inl ⟨by rfl, ?_⟩) (by assumption) ?_
  rotate_left
  · (intro w' hSw; (try dsimp only at hSw); go_simp; all_goals with_reducible rfl)
  try simp only [Act.put, List.setIfInBounds_toArray, List.set_cons_zero, List.set_cons_succ]
  refine wpAnyH_done (by kernel_rfl) ?_ _
  refine NoPanic.normal ?_
  clear hHeld
  go_wp2
  have u0 := cell_of_row _ _ 0 _ _ (0, 0) DD.out.res
  simp only [List.getElem?_toArray, List.getElem?_cons_zero] at u0
  refine bodyPost_ret (v := .tuple #[.agg #[.slice a n c], .int .i64 q]) (by simp [results, Try.results29, go_sem, *]) rfl ⟨a, n, c, L, q, rfl, ⟨DD.out.ia, hn⟩, DD.out.bel⟩

set_option maxRecDepth 100000 in
set_option maxHeartbeats 8000000 in
theorem s_DrawFlattenProfile (a0 : Option Addr) (n0 c0 : Nat) (w : World) (h : BytesAt w a0 n0) :
    Calls Try.prog 33 #[.slice a0 n0 c0] w fun e w' => ∃ (a : Option Addr) (n c : Nat) (L : List Int) (q : Int), e = .returned (.tuple #[.agg #[.slice a n c], .int .i64 q]) ∧ (IntsAt w' a n L ∧ n ≤ 24) ∧ Below w.heap.size w w' := by
  have H := hid h
  clear h
  go_enter Try.func33, Try.ntmps33
  go_upto_region 2 with fail
  have C0 := hid (Cur.start (c := c0) (g := w.heap.size + 1) (H.out.below (by go_grown : Below w.heap.size w (w.alloc (.cells #[.slice none 0 0] 26)))) (by simp))
  have R0 : ((w.alloc (.cells #[.slice none 0 0] 26)).alloc (.cells #[.slice a0 n0 c0, .int .i64 0, .int .u64 0] 85)).heap[w.heap.size]? = some (.cells #[.slice none 0 0] 26 (0, 0)) := (Below.heap_alloc _ _ _ (by simp)).trans (heap_alloc_new _ _)
  have B0 : Below w.heap.size w ((w.alloc (.cells #[.slice none 0 0] 26)).alloc (.cells #[.slice a0 n0 c0, .int .i64 0, .int .u64 0] 85)) := by go_grown
  have hz0 : ((w.alloc (.cells #[.slice none 0 0] 26)).alloc (.cells #[.slice a0 n0 c0, .int .i64 0, .int .u64 0] 85)).heap.size = w.heap.size + 1 + 1 := by simp
  generalize (w.alloc (.cells #[.slice none 0 0] 26)).alloc (.cells #[.slice a0 n0 c0, .int .i64 0, .int .u64 0] 85) = w0 at *
  go_wp2_with fail
  refine (c_profile _ 0 _ C0.out (by omega)).mono ?_
  rintro e w1 ⟨⟨a, n, c, rfl, hn, L, hI, hfr⟩, hc1, hg1⟩
  have hz1 := hg1.size
  have S1 := hid (show DB w (w1.alloc (.cells #[.slice a n c] 26)) (w.heap.size + 1) 100 w1.heap.size w.heap.size a n c L from
    ⟨hc1.below (by go_grown), (B0.grown hg1 (by omega) (fun q e => by have := Option.some.inj e; omega)).alloc (by omega) _, hI.below (by go_grown), heap_alloc_new _ _,
      (Below.heap_alloc _ _ _ (by omega)).trans ((hg1.block w.heap.size (by omega) (fun e => by have := Option.some.inj e; omega)).trans R0), by omega, by omega, by omega, fun b o e => by have := hfr b o e; omega⟩)
  have hpr : w1.heap.size ≠ w.heap.size := by omega
  clear C0 R0 B0 hI hfr hc1 hg1
  go_upto_region 3 with fail
  generalize w1.alloc (.cells #[.slice a n c] 26) = w2 at *
  generalize w1.heap.size = pb at *
  have m0 := S1.out.cell
  have hgz := S1.out.cur.lt
  refine wp_region_noPanic ?_
  refine wp_region_held_drew (S := (fun w' => w'.cell? ⟨pb, 0, none⟩ = some (.slice a n c))) (by kernel_rfl) (by exact m0) (fun hHeld => ?_)
  refine wpAnyH_take' (i := 0) (v := ?_) rfl (by kernel_rfl) (by kernel_rfl) (by kernel_rfl) (fun _ _ _ h => h) (Or.inl ⟨by rfl, ?_⟩) (by assumption) ?_
  rotate_left
  · (intro w' hSw; (try dsimp only at hSw); go_simp; all_goals with_reducible rfl)
  try simp only [Act.put, List.setIfInBounds_toArray, List.set_cons_zero, List.set_cons_succ]
  refine wpAnyH_take' (i := 1) (v := ?_) rfl (by kernel_rfl) (by kernel_rfl) (by kernel_rfl) (fun _ _ _ h => h) (Or.inl ⟨by rfl, ?_⟩) (by assumption) ?_
  rotate_left
  · (intro w' hSw; (try dsimp only at hSw); go_simp; all_goals with_reducible rfl)
  try simp only [Act.put, List.setIfInBounds_toArray, List.set_cons_zero, List.set_cons_succ]
  refine wpAnyH_take' (i := 3) (v := ?_) rfl (by kernel_rfl) (by kernel_rfl) (by kernel_rfl) (fun _ _ _ h => h) (Or.inl ⟨by rfl, ?_⟩) (by assumption) ?_
  rotate_left
  · (intro w' hSw; (try dsimp only at hSw); go_simp; all_goals with_reducible rfl)
  try simp only [Act.put, List.setIfInBounds_toArray, List.set_cons_zero, List.set_cons_succ]
  refine wpAnyH_ready (rs := [2, 4]) (by kernel_rfl) (by simp) ?_
  refine allReadyH_cons' rfl (fun Kn hKn => ?_) (allReadyH_cons' rfl (fun Kn hKn => ?_) AllReadyH.nil)
  · go_simp
    have SP := hid (S1.out.below (by go_grown : Below w2.heap.size w2 ((w2.alloc (.cells #[.int .i64 100, .int .i64 101, .int .i64 120, .int .i64 200, .int .i64 1000, .int .i64 99, .int .i64 1001] 3)).drew)))
    have IP : IntsAt ((w2.alloc (.cells #[.int .i64 100, .int .i64 101, .int .i64 120, .int .i64 200, .int .i64 1000, .int .i64 99, .int .i64 1001] 3)).drew) (some ⟨w2.heap.size, 0, none⟩) 7 [100, 101, 120, 200, 1000, 99, 1001] := IntsAt.below (IntsAt.lit' w2 3 [100, 101, 120, 200, 1000, 99, 1001] rfl rfl) ((Below.refl _ _).drew)
    refine hKn.out _ _ (SP.out.cell) (fun hHeldN => ?_)
    clear hKn Kn hHeld
    have hHeld := hHeldN
    clear hHeldN
    try simp only [Act.put, List.setIfInBounds_toArray, List.set_cons_zero, List.set_cons_succ]
    refine wpAnyH_ready (rs := [4]) (by kernel_rfl) (by simp) ?_
    refine allReadyH_cons' rfl (fun Kn hKn => ?_) AllReadyH.nil
    go_simp
    go_at_call 92
    refine (c_pick _ 100 24 _ (by exact SP.out.cur) (by omega) (by omega)).mono ?_
    rintro e wp ⟨⟨v, rfl, hv0, hv1⟩, hc, hg⟩
    have SQ := hid (SP.out.step hc hg)
    have IQ := hid (IP.kept hg (fun b o e e2 => by simp only [Option.some.injEq, Addr.mk.injEq] at e; have := Option.some.inj e2; omega))
    clear hc hg IP
    refine hKn.out _ _ (SQ.out.cell) (fun hHeldN => ?_)
    clear hKn Kn hHeld
    have hHeld := hHeldN
    clear hHeldN
    try simp only [Act.put, List.setIfInBounds_toArray, List.set_cons_zero, List.set_cons_succ]
    obtain ⟨k, hk⟩ : ∃ k : Nat, 5 + v.tdiv 11 = (k : Int) := ⟨(5 + v.tdiv 11).toNat, by rw [Int.tdiv_eq_ediv_of_nonneg hv0]; omega⟩
    have hk2 : 5 ≤ k ∧ k ≤ 7 := by rw [Int.tdiv_eq_ediv_of_nonneg hv0] at hk; omega
    have hw1 : IntKind.i64.wrap (v.tdiv 11) = v.tdiv 11 := IntWalk.i64_in _ (by rw [Int.tdiv_eq_ediv_of_nonneg hv0]; omega)
    have hw2 : IntKind.i64.wrap (5 + v.tdiv 11) = (k : Int) := by rw [hk]; exact IntWalk.i64_in _ (by omega)
    have hk3 : (k : Int) ≤ 7 := by omega
    clear hv0 hv1 hk
    refine wpAnyH_take' (i := 5) (v := ?_) rfl (by kernel_rfl) (by kernel_rfl) (by kernel_rfl) (fun _ _ _ h => h) (Or.inl ⟨by rfl, ?_⟩) (by assumption) ?_
    rotate_left
    · (intro w' hSw; (try dsimp only at hSw); go_simp; all_goals with_reducible rfl)
    try simp only [Act.put, List.setIfInBounds_toArray, List.set_cons_zero, List.set_cons_succ]
    refine wpAnyH_take' (i := 6) (v := ?_) rfl (by kernel_rfl) (by kernel_rfl) (by kernel_rfl) (fun _ _ _ h => h) (Or.inl ⟨by rfl, ?_⟩) (by assumption) ?_
    rotate_left
    · (intro w' hSw; (try dsimp only at hSw); go_simp; all_goals with_reducible rfl)
    try simp only [Act.put, List.setIfInBounds_toArray, List.set_cons_zero, List.set_cons_succ]
    refine wpAnyH_take' (i := 7) (v := ?_) rfl (by kernel_rfl) (by kernel_rfl) (by kernel_rfl) (fun _ _ _ h => h) (Or.inl ⟨by rfl, ?_⟩) (by assumption) ?_
    rotate_left
    · (intro w' hSw; (try dsimp only at hSw); go_simp; all_goals with_reducible rfl)
    try simp only [Act.put, List.setIfInBounds_toArray, List.set_cons_zero, List.set_cons_succ]
    refine wpAnyH_ready (rs := [8]) (by kernel_rfl) (by simp) ?_
    refine allReadyH_cons' rfl (fun Kn hKn => ?_) AllReadyH.nil
    go_simp
    go_at_call 91
    refine (c_among _ _ _ k _ ([100, 101, 120, 200, 1000, 99, 1001].take k) _ (by exact SQ.out.cur) (by omega) (by exact ints_take IQ.out (by omega)) (by omega) (by omega) (by omega)).mono ?_
    rintro e wu ⟨⟨u, rfl, hu⟩, hc, hg⟩
    have SU := hid (SQ.out.step hc hg)
    clear hc hg hu
    refine hKn.out _ _ (SU.out.cell) (fun hHeldN => ?_)
    clear hKn Kn hHeld
    have hHeld := hHeldN
    clear hHeldN
    try simp only [Act.put, List.setIfInBounds_toArray, List.set_cons_zero, List.set_cons_succ]
    have n0 : (wu).cell? ⟨w.heap.size, 0, none⟩ = some (.slice none 0 0) := by rw [cell_of_row _ _ _ _ _ (0, 0) SU.out.res]; rfl
    have g0 := frozen_of_row _ _ 0 _ _ SU.out.res
    have hrz := SU.out.rz
    refine wpAnyH_ready (rs := [9]) (by kernel_rfl) (by simp) ?_
    refine allReadyH_cons' rfl (fun Kn hKn => ?_) AllReadyH.nil
    go_simp
    have DD := hid (SU.out.fin hpr)
    refine hKn.out _ _ (DD.out.box) (fun hHeldN => ?_)
    clear hKn Kn hHeld
    have hHeld := hHeldN
    clear hHeldN
    try simp only [Act.put, List.setIfInBounds_toArray, List.set_cons_zero, List.set_cons_succ]
    clear n0 g0 hrz
    generalize (wu).setCell ⟨w.heap.size, 0, none⟩ (.slice a n c) = w9 at *
    refine wpAnyH_take' (i := 10) (v := ?_) rfl (by kernel_rfl) (by kernel_rfl) (by kernel_rfl) (fun _ _ _ h => h) (Or.inl ⟨by rfl, ?_⟩) (by assumption) ?_
    rotate_left
    · (intro w' hSw; (try dsimp only at hSw); go_simp; all_goals with_reducible rfl)
    try simp only [Act.put, List.setIfInBounds_toArray, List.set_cons_zero, List.set_cons_succ]
    refine wpAnyH_done (by kernel_rfl) ?_ _
    refine NoPanic.normal ?_
    clear hHeld
    go_wp2
    have u0 := cell_of_row _ _ 0 _ _ (0, 0) DD.out.res
    simp only [List.getElem?_toArray, List.getElem?_cons_zero] at u0
    refine bodyPost_ret (v := .tuple #[.agg #[.slice a n c], .int .i64 u]) (by simp [results, Try.results33, go_sem, *]) rfl ⟨a, n, c, L, u, rfl, ⟨DD.out.ia, hn⟩, DD.out.bel⟩
  · have SP := hid (S1.out.below ((Below.refl _ _).drew))
    go_simp
    go_at_call 92
    refine (c_pick _ 100 24 _ (by exact SP.out.cur) (by omega) (by omega)).mono ?_
    rintro e wp ⟨⟨v, rfl, hv0, hv1⟩, hc, hg⟩
    have SQ := hid (SP.out.step hc hg)
    clear hc hg
    refine hKn.out _ _ (SQ.out.cell) (fun hHeldN => ?_)
    clear hKn Kn hHeld
    have hHeld := hHeldN
    clear hHeldN
    try simp only [Act.put, List.setIfInBounds_toArray, List.set_cons_zero, List.set_cons_succ]
    obtain ⟨k, hk⟩ : ∃ k : Nat, 5 + v.tdiv 11 = (k : Int) := ⟨(5 + v.tdiv 11).toNat, by rw [Int.tdiv_eq_ediv_of_nonneg hv0]; omega⟩
    have hk2 : 5 ≤ k ∧ k ≤ 7 := by rw [Int.tdiv_eq_ediv_of_nonneg hv0] at hk; omega
    have hw1 : IntKind.i64.wrap (v.tdiv 11) = v.tdiv 11 := IntWalk.i64_in _ (by rw [Int.tdiv_eq_ediv_of_nonneg hv0]; omega)
    have hw2 : IntKind.i64.wrap (5 + v.tdiv 11) = (k : Int) := by rw [hk]; exact IntWalk.i64_in _ (by omega)
    have hk3 : (k : Int) ≤ 7 := by omega
    clear hv0 hv1 hk
    refine wpAnyH_take' (i := 5) (v := ?_) rfl (by kernel_rfl) (by kernel_rfl) (by kernel_rfl) (fun _ _ _ h => h) (Or.inl ⟨by rfl, ?_⟩) (by assumption) ?_
    rotate_left
    · (intro w' hSw; (try dsimp only at hSw); go_simp; all_goals with_reducible rfl)
    try simp only [Act.put, List.setIfInBounds_toArray, List.set_cons_zero, List.set_cons_succ]
    refine wpAnyH_take' (i := 6) (v := ?_) rfl (by kernel_rfl) (by kernel_rfl) (by kernel_rfl) (fun _ _ _ h => h) (Or.inl ⟨by rfl, ?_⟩) (by assumption) ?_
    rotate_left
    · (intro w' hSw; (try dsimp only at hSw); go_simp; all_goals with_reducible rfl)
    try simp only [Act.put, List.setIfInBounds_toArray, List.set_cons_zero, List.set_cons_succ]
    refine wpAnyH_ready (rs := [2]) (by kernel_rfl) (by simp) ?_
    refine allReadyH_cons' rfl (fun Kn hKn => ?_) AllReadyH.nil
    go_simp
    have SV := hid (SQ.out.below (by go_grown : Below wp.heap.size wp ((wp.alloc (.cells #[.int .i64 100, .int .i64 101, .int .i64 120, .int .i64 200, .int .i64 1000, .int .i64 99, .int .i64 1001] 3)))))
    have IQ := hid (show IntsAt (wp.alloc (.cells #[.int .i64 100, .int .i64 101, .int .i64 120, .int .i64 200, .int .i64 1000, .int .i64 99, .int .i64 1001] 3)) (some ⟨wp.heap.size, 0, none⟩) 7 [100, 101, 120, 200, 1000, 99, 1001] from IntsAt.lit' wp 3 [100, 101, 120, 200, 1000, 99, 1001] rfl rfl)
    have hgp := SQ.out.cur.lt
    refine hKn.out _ _ (SV.out.cell) (fun hHeldN => ?_)
    clear hKn Kn hHeld
    have hHeld := hHeldN
    clear hHeldN
    try simp only [Act.put, List.setIfInBounds_toArray, List.set_cons_zero, List.set_cons_succ]
    clear SQ
    have SQ := SV
    refine wpAnyH_take' (i := 7) (v := ?_) rfl (by kernel_rfl) (by kernel_rfl) (by kernel_rfl) (fun _ _ _ h => h) (Or.inl ⟨by rfl, ?_⟩) (by assumption) ?_
    rotate_left
    · (intro w' hSw; (try dsimp only at hSw); go_simp; all_goals with_reducible rfl)
    try simp only [Act.put, List.setIfInBounds_toArray, List.set_cons_zero, List.set_cons_succ]
    refine wpAnyH_ready (rs := [8]) (by kernel_rfl) (by simp) ?_
    refine allReadyH_cons' rfl (fun Kn hKn => ?_) AllReadyH.nil
    go_simp
    go_at_call 91
    refine (c_among _ _ _ k _ ([100, 101, 120, 200, 1000, 99, 1001].take k) _ (by exact SQ.out.cur) (by omega) (by exact ints_take IQ.out (by omega)) (by omega) (by omega) (by omega)).mono ?_
    rintro e wu ⟨⟨u, rfl, hu⟩, hc, hg⟩
    have SU := hid (SQ.out.step hc hg)
    clear hc hg hu
    refine hKn.out _ _ (SU.out.cell) (fun hHeldN => ?_)
    clear hKn Kn hHeld
    have hHeld := hHeldN
    clear hHeldN
    try simp only [Act.put, List.setIfInBounds_toArray, List.set_cons_zero, List.set_cons_succ]
    have n0 : (wu).cell? ⟨w.heap.size, 0, none⟩ = some (.slice none 0 0) := by rw [cell_of_row _ _ _ _ _ (0, 0) SU.out.res]; rfl
    have g0 := frozen_of_row _ _ 0 _ _ SU.out.res
    have hrz := SU.out.rz
    refine wpAnyH_ready (rs := [9]) (by kernel_rfl) (by simp) ?_
    refine allReadyH_cons' rfl (fun Kn hKn => ?_) AllReadyH.nil
    go_simp
    have DD := hid (SU.out.fin hpr)
    refine hKn.out _ _ (DD.out.box) (fun hHeldN => ?_)
    clear hKn Kn hHeld
    have hHeld := hHeldN
    clear hHeldN
    try simp only [Act.put, List.setIfInBounds_toArray, List.set_cons_zero, List.set_cons_succ]
    clear n0 g0 hrz
    generalize (wu).setCell ⟨w.heap.size, 0, none⟩ (.slice a n c) = w9 at *
    refine wpAnyH_take' (i := 10) (v := ?_) rfl (by kernel_rfl) (by kernel_rfl) (by kernel_rfl) (fun _ _ _ h => h) (Or.inl ⟨by rfl, ?_⟩) (by assumption) ?_
    rotate_left
    · (intro w' hSw; (try dsimp only at hSw); go_simp; all_goals with_reducible rfl)
    try simp only [Act.put, List.setIfInBounds_toArray, List.set_cons_zero, List.set_cons_succ]
    refine wpAnyH_done (by kernel_rfl) ?_ _
    refine NoPanic.normal ?_
    clear hHeld
    go_wp2
    have u0 := cell_of_row _ _ 0 _ _ (0, 0) DD.out.res
    simp only [List.getElem?_toArray, List.getElem?_cons_zero] at u0
    refine bodyPost_ret (v := .tuple #[.agg #[.slice a n c], .int .i64 u]) (by simp [results, Try.results33, go_sem, *]) rfl ⟨a, n, c, L, u, rfl, ⟨DD.out.ia, hn⟩, DD.out.bel⟩

set_option maxRecDepth 100000 in
set_option maxHeartbeats 8000000 in
theorem s_DrawQuietestHours (a0 : Option Addr) (n0 c0 : Nat) (w : World) (h : BytesAt w a0 n0) :
    Calls Try.prog 34 #[.slice a0 n0 c0] w fun e w' => ∃ (a : Option Addr) (n c : Nat) (L : List Int) (q : Int), e = .returned (.tuple #[.agg #[.slice a n c], .int .i64 q]) ∧ (IntsAt w' a n L ∧ n ≤ 24) ∧ Below w.heap.size w w' := by
  have H := hid h
  clear h
  go_enter Try.func34, Try.ntmps34
  go_upto_region 2 with fail
  have C0 := hid (Cur.start (c := c0) (g := w.heap.size + 1) (H.out.below (by go_grown : Below w.heap.size w (w.alloc (.cells #[.slice none 0 0] 26)))) (by simp))
  have R0 : ((w.alloc (.cells #[.slice none 0 0] 26)).alloc (.cells #[.slice a0 n0 c0, .int .i64 0, .int .u64 0] 85)).heap[w.heap.size]? = some (.cells #[.slice none 0 0] 26 (0, 0)) := (Below.heap_alloc _ _ _ (by simp)).trans (heap_alloc_new _ _)
  have B0 : Below w.heap.size w ((w.alloc (.cells #[.slice none 0 0] 26)).alloc (.cells #[.slice a0 n0 c0, .int .i64 0, .int .u64 0] 85)) := by go_grown
  have hz0 : ((w.alloc (.cells #[.slice none 0 0] 26)).alloc (.cells #[.slice a0 n0 c0, .int .i64 0, .int .u64 0] 85)).heap.size = w.heap.size + 1 + 1 := by simp
  generalize (w.alloc (.cells #[.slice none 0 0] 26)).alloc (.cells #[.slice a0 n0 c0, .int .i64 0, .int .u64 0] 85) = w0 at *
  go_wp2_with fail
  refine (c_profile _ 0 _ C0.out (by omega)).mono ?_
  rintro e w1 ⟨⟨a, n, c, rfl, hn, L, hI, hfr⟩, hc1, hg1⟩
  have hz1 := hg1.size
  have S1 := hid (show DB w (w1.alloc (.cells #[.slice a n c] 26)) (w.heap.size + 1) 100 w1.heap.size w.heap.size a n c L from
    ⟨hc1.below (by go_grown), (B0.grown hg1 (by omega) (fun q e => by have := Option.some.inj e; omega)).alloc (by omega) _, hI.below (by go_grown), heap_alloc_new _ _,
      (Below.heap_alloc _ _ _ (by omega)).trans ((hg1.block w.heap.size (by omega) (fun e => by have := Option.some.inj e; omega)).trans R0), by omega, by omega, by omega, fun b o e => by have := hfr b o e; omega⟩)
  have hpr : w1.heap.size ≠ w.heap.size := by omega
  clear C0 R0 B0 hI hfr hc1 hg1
  go_upto_region 3 with fail
  generalize w1.alloc (.cells #[.slice a n c] 26) = w2 at *
  generalize w1.heap.size = pb at *
  have m0 := S1.out.cell
  have hgz := S1.out.cur.lt
  refine wp_region_noPanic ?_
  refine wp_region_held_drew (S := (fun w' => w'.cell? ⟨pb, 0, none⟩ = some (.slice a n c))) (by kernel_rfl) (by exact m0) (fun hHeld => ?_)
  refine wpAnyH_take' (i := 0) (v := ?_) rfl (by kernel_rfl) (by kernel_rfl) (by kernel_rfl) (fun _ _ _ h => h) (Or.inl ⟨by rfl, ?_⟩) (by assumption) ?_
  rotate_left
  · (intro w' hSw; (try dsimp only at hSw); go_simp; all_goals with_reducible rfl)
  try simp only [Act.put, List.setIfInBounds_toArray, List.set_cons_zero, List.set_cons_succ]
  refine wpAnyH_take' (i := 1) (v := ?_) rfl (by kernel_rfl) (by kernel_rfl) (by kernel_rfl) (fun _ _ _ h => h) (Or.inl ⟨by rfl, ?_⟩) (by assumption) ?_
  rotate_left
  · (intro w' hSw; (try dsimp only at hSw); go_simp; all_goals with_reducible rfl)
  try simp only [Act.put, List.setIfInBounds_toArray, List.set_cons_zero, List.set_cons_succ]
  refine wpAnyH_take' (i := 3) (v := ?_) rfl (by kernel_rfl) (by kernel_rfl) (by kernel_rfl) (fun _ _ _ h => h) (Or.inl ⟨by rfl, ?_⟩) (by assumption) ?_
  rotate_left
  · (intro w' hSw; (try dsimp only at hSw); go_simp; all_goals with_reducible rfl)
  try simp only [Act.put, List.setIfInBounds_toArray, List.set_cons_zero, List.set_cons_succ]
  refine wpAnyH_ready (rs := [2, 4]) (by kernel_rfl) (by simp) ?_
  refine allReadyH_cons' rfl (fun Kn hKn => ?_) (allReadyH_cons' rfl (fun Kn hKn => ?_) AllReadyH.nil)
  · go_simp
    have SP := hid (S1.out.below (by go_grown : Below w2.heap.size w2 ((w2.alloc (.cells #[.int .i64 1, .int .i64 2, .int .i64 5, .int .i64 23, .int .i64 24, .int .i64 0, .int .i64 25] 3)).drew)))
    have IP : IntsAt ((w2.alloc (.cells #[.int .i64 1, .int .i64 2, .int .i64 5, .int .i64 23, .int .i64 24, .int .i64 0, .int .i64 25] 3)).drew) (some ⟨w2.heap.size, 0, none⟩) 7 [1, 2, 5, 23, 24, 0, 25] := IntsAt.below (IntsAt.lit' w2 3 [1, 2, 5, 23, 24, 0, 25] rfl rfl) ((Below.refl _ _).drew)
    refine hKn.out _ _ (SP.out.cell) (fun hHeldN => ?_)
    clear hKn Kn hHeld
    have hHeld := hHeldN
    clear hHeldN
    try simp only [Act.put, List.setIfInBounds_toArray, List.set_cons_zero, List.set_cons_succ]
    refine wpAnyH_ready (rs := [4]) (by kernel_rfl) (by simp) ?_
    refine allReadyH_cons' rfl (fun Kn hKn => ?_) AllReadyH.nil
    go_simp
    go_at_call 92
    refine (c_pick _ 100 24 _ (by exact SP.out.cur) (by omega) (by omega)).mono ?_
    rintro e wp ⟨⟨v, rfl, hv0, hv1⟩, hc, hg⟩
    have SQ := hid (SP.out.step hc hg)
    have IQ := hid (IP.kept hg (fun b o e e2 => by simp only [Option.some.injEq, Addr.mk.injEq] at e; have := Option.some.inj e2; omega))
    clear hc hg IP
    refine hKn.out _ _ (SQ.out.cell) (fun hHeldN => ?_)
    clear hKn Kn hHeld
    have hHeld := hHeldN
    clear hHeldN
    try simp only [Act.put, List.setIfInBounds_toArray, List.set_cons_zero, List.set_cons_succ]
    obtain ⟨k, hk⟩ : ∃ k : Nat, 5 + v.tdiv 11 = (k : Int) := ⟨(5 + v.tdiv 11).toNat, by rw [Int.tdiv_eq_ediv_of_nonneg hv0]; omega⟩
    have hk2 : 5 ≤ k ∧ k ≤ 7 := by rw [Int.tdiv_eq_ediv_of_nonneg hv0] at hk; omega
    have hw1 : IntKind.i64.wrap (v.tdiv 11) = v.tdiv 11 := IntWalk.i64_in _ (by rw [Int.tdiv_eq_ediv_of_nonneg hv0]; omega)
    have hw2 : IntKind.i64.wrap (5 + v.tdiv 11) = (k : Int) := by rw [hk]; exact IntWalk.i64_in _ (by omega)
    have hk3 : (k : Int) ≤ 7 := by omega
    clear hv0 hv1 hk
    refine wpAnyH_take' (i := 5) (v := ?_) rfl (by kernel_rfl) (by kernel_rfl) (by kernel_rfl) (fun _ _ _ h => h) (Or.inl ⟨by rfl, ?_⟩) (by assumption) ?_
    rotate_left
    · (intro w' hSw; (try dsimp only at hSw); go_simp; all_goals with_reducible rfl)
    try simp only [Act.put, List.setIfInBounds_toArray, List.set_cons_zero, List.set_cons_succ]
    refine wpAnyH_take' (i := 6) (v := ?_) rfl (by kernel_rfl) (by kernel_rfl) (by kernel_rfl) (fun _ _ _ h => h) (Or.inl ⟨by rfl, ?_⟩) (by assumption) ?_
    rotate_left
    · (intro w' hSw; (try dsimp only at hSw); go_simp; all_goals with_reducible rfl)
    try simp only [Act.put, List.setIfInBounds_toArray, List.set_cons_zero, List.set_cons_succ]
    refine wpAnyH_take' (i := 7) (v := ?_) rfl (by kernel_rfl) (by kernel_rfl) (by kernel_rfl) (fun _ _ _ h => h) (Or.inl ⟨by rfl, ?_⟩) (by assumption) ?_
    rotate_left
    · (intro w' hSw; (try dsimp only at hSw); go_simp; all_goals with_reducible rfl)
    try simp only [Act.put, List.setIfInBounds_toArray, List.set_cons_zero, List.set_cons_succ]
    refine wpAnyH_ready (rs := [8]) (by kernel_rfl) (by simp) ?_
    refine allReadyH_cons' rfl (fun Kn hKn => ?_) AllReadyH.nil
    go_simp
    go_at_call 91
    refine (c_among _ _ _ k _ ([1, 2, 5, 23, 24, 0, 25].take k) _ (by exact SQ.out.cur) (by omega) (by exact ints_take IQ.out (by omega)) (by omega) (by omega) (by omega)).mono ?_
    rintro e wu ⟨⟨u, rfl, hu⟩, hc, hg⟩
    have SU := hid (SQ.out.step hc hg)
    clear hc hg hu
    refine hKn.out _ _ (SU.out.cell) (fun hHeldN => ?_)
    clear hKn Kn hHeld
    have hHeld := hHeldN
    clear hHeldN
    try simp only [Act.put, List.setIfInBounds_toArray, List.set_cons_zero, List.set_cons_succ]
    have n0 : (wu).cell? ⟨w.heap.size, 0, none⟩ = some (.slice none 0 0) := by rw [cell_of_row _ _ _ _ _ (0, 0) SU.out.res]; rfl
    have g0 := frozen_of_row _ _ 0 _ _ SU.out.res
    have hrz := SU.out.rz
    refine wpAnyH_ready (rs := [9]) (by kernel_rfl) (by simp) ?_
    refine allReadyH_cons' rfl (fun Kn hKn => ?_) AllReadyH.nil
    go_simp
    have DD := hid (SU.out.fin hpr)
    refine hKn.out _ _ (DD.out.box) (fun hHeldN => ?_)
    clear hKn Kn hHeld
    have hHeld := hHeldN
    clear hHeldN
    try simp only [Act.put, List.setIfInBounds_toArray, List.set_cons_zero, List.set_cons_succ]
    clear n0 g0 hrz
    generalize (wu).setCell ⟨w.heap.size, 0, none⟩ (.slice a n c) = w9 at *
    refine wpAnyH_take' (i := 10) (v := ?_) rfl (by kernel_rfl) (by kernel_rfl) (by kernel_rfl) (fun _ _ _ h => h) (Or.inl ⟨by rfl, ?_⟩) (by assumption) ?_
    rotate_left
    · (intro w' hSw; (try dsimp only at hSw); go_simp; all_goals with_reducible rfl)
    try simp only [Act.put, List.setIfInBounds_toArray, List.set_cons_zero, List.set_cons_succ]
    refine wpAnyH_done (by kernel_rfl) ?_ _
    refine NoPanic.normal ?_
    clear hHeld
    go_wp2
    have u0 := cell_of_row _ _ 0 _ _ (0, 0) DD.out.res
    simp only [List.getElem?_toArray, List.getElem?_cons_zero] at u0
    refine bodyPost_ret (v := .tuple #[.agg #[.slice a n c], .int .i64 u]) (by simp [results, Try.results34, go_sem, *]) rfl ⟨a, n, c, L, u, rfl, ⟨DD.out.ia, hn⟩, DD.out.bel⟩
  · have SP := hid (S1.out.below ((Below.refl _ _).drew))
    go_simp
    go_at_call 92
    refine (c_pick _ 100 24 _ (by exact SP.out.cur) (by omega) (by omega)).mono ?_
    rintro e wp ⟨⟨v, rfl, hv0, hv1⟩, hc, hg⟩
    have SQ := hid (SP.out.step hc hg)
    clear hc hg
    refine hKn.out _ _ (SQ.out.cell) (fun hHeldN => ?_)
    clear hKn Kn hHeld
    have hHeld := hHeldN
    clear hHeldN
    try simp only [Act.put, List.setIfInBounds_toArray, List.set_cons_zero, List.set_cons_succ]
    obtain ⟨k, hk⟩ : ∃ k : Nat, 5 + v.tdiv 11 = (k : Int) := ⟨(5 + v.tdiv 11).toNat, by rw [Int.tdiv_eq_ediv_of_nonneg hv0]; omega⟩
    have hk2 : 5 ≤ k ∧ k ≤ 7 := by rw [Int.tdiv_eq_ediv_of_nonneg hv0] at hk; omega
    have hw1 : IntKind.i64.wrap (v.tdiv 11) = v.tdiv 11 := IntWalk.i64_in _ (by rw [Int.tdiv_eq_ediv_of_nonneg hv0]; omega)
    have hw2 : IntKind.i64.wrap (5 + v.tdiv 11) = (k : Int) := by rw [hk]; exact IntWalk.i64_in _ (by omega)
    have hk3 : (k : Int) ≤ 7 := by omega
    clear hv0 hv1 hk
    refine wpAnyH_take' (i := 5) (v := ?_) rfl (by kernel_rfl) (by kernel_rfl) (by kernel_rfl) (fun _ _ _ h => h) (Or.inl ⟨by rfl, ?_⟩) (by assumption) ?_
    rotate_left
    · (intro w' hSw; (try dsimp only at hSw); go_simp; all_goals with_reducible rfl)
    try simp only [Act.put, List.setIfInBounds_toArray, List.set_cons_zero, List.set_cons_succ]
    refine wpAnyH_take' (i := 6) (v := ?_) rfl (by kernel_rfl) (by kernel_rfl) (by kernel_rfl) (fun _ _ _ h => h) (Or.inl ⟨by rfl, ?_⟩) (by assumption) ?_
    rotate_left
    · (intro w' hSw; (try dsimp only at hSw); go_simp; all_goals with_reducible rfl)
    try simp only [Act.put, List.setIfInBounds_toArray, List.set_cons_zero, List.set_cons_succ]
    refine wpAnyH_ready (rs := [2]) (by kernel_rfl) (by simp) ?_
    refine allReadyH_cons' rfl (fun Kn hKn => ?_) AllReadyH.nil
    go_simp
    have SV := hid (SQ.out.below (by go_grown : Below wp.heap.size wp ((wp.alloc (.cells #[.int .i64 1, .int .i64 2, .int .i64 5, .int .i64 23, .int .i64 24, .int .i64 0, .int .i64 25] 3)))))
    have IQ := hid (show IntsAt (wp.alloc (.cells #[.int .i64 1, .int .i64 2, .int .i64 5, .int .i64 23, .int .i64 24, .int .i64 0, .int .i64 25] 3)) (some ⟨wp.heap.size, 0, none⟩) 7 [1, 2, 5, 23, 24, 0, 25] from IntsAt.lit' wp 3 [1, 2, 5, 23, 24, 0, 25] rfl rfl)
    have hgp := SQ.out.cur.lt
    refine hKn.out _ _ (SV.out.cell) (fun hHeldN => ?_)
    clear hKn Kn hHeld
    have hHeld := hHeldN
    clear hHeldN
    try simp only [Act.put, List.setIfInBounds_toArray, List.set_cons_zero, List.set_cons_succ]
    clear SQ
    have SQ := SV
    refine wpAnyH_take' (i := 7) (v := ?_) rfl (by kernel_rfl) (by kernel_rfl) (by kernel_rfl) (fun _ _ _ h => h) (Or.inl ⟨by rfl, ?_⟩) (by assumption) ?_
    rotate_left
    · (intro w' hSw; (try dsimp only at hSw); go_simp; all_goals with_reducible rfl)
    try simp only [Act.put, List.setIfInBounds_toArray, List.set_cons_zero, List.set_cons_succ]
    refine wpAnyH_ready (rs := [8]) (by kernel_rfl) (by simp) ?_
    refine allReadyH_cons' rfl (fun Kn hKn => ?_) AllReadyH.nil
    go_simp
    go_at_call 91
    refine (c_among _ _ _ k _ ([1, 2, 5, 23, 24, 0, 25].take k) _ (by exact SQ.out.cur) (by omega) (by exact ints_take IQ.out (by omega)) (by omega) (by omega) (by omega)).mono ?_
    rintro e wu ⟨⟨u, rfl, hu⟩, hc, hg⟩
    have SU := hid (SQ.out.step hc hg)
    clear hc hg hu
    refine hKn.out _ _ (SU.out.cell) (fun hHeldN => ?_)
    clear hKn Kn hHeld
    have hHeld := hHeldN
    clear hHeldN
    try simp only [Act.put, List.setIfInBounds_toArray, List.set_cons_zero, List.set_cons_succ]
    have n0 : (wu).cell? ⟨w.heap.size, 0, none⟩ = some (.slice none 0 0) := by rw [cell_of_row _ _ _ _ _ (0, 0) SU.out.res]; rfl
    have g0 := frozen_of_row _ _ 0 _ _ SU.out.res
    have hrz := SU.out.rz
    refine wpAnyH_ready (rs := [9]) (by kernel_rfl) (by simp) ?_
    refine allReadyH_cons' rfl (fun Kn hKn => ?_) AllReadyH.nil
    go_simp
    have DD := hid (SU.out.fin hpr)
    refine hKn.out _ _ (DD.out.box) (fun hHeldN => ?_)
    clear hKn Kn hHeld
    have hHeld := hHeldN
    clear hHeldN
    try simp only [Act.put, List.setIfInBounds_toArray, List.set_cons_zero, List.set_cons_succ]
    clear n0 g0 hrz
    generalize (wu).setCell ⟨w.heap.size, 0, none⟩ (.slice a n c) = w9 at *
    refine wpAnyH_take' (i := 10) (v := ?_) rfl (by kernel_rfl) (by kernel_rfl) (by kernel_rfl) (fun _ _ _ h => h) (Or.inl ⟨by rfl, ?_⟩) (by assumption) ?_
    rotate_left
    · (intro w' hSw; (try dsimp only at hSw); go_simp; all_goals with_reducible rfl)
    try simp only [Act.put, List.setIfInBounds_toArray, List.set_cons_zero, List.set_cons_succ]
    refine wpAnyH_done (by kernel_rfl) ?_ _
    refine NoPanic.normal ?_
    clear hHeld
    go_wp2
    have u0 := cell_of_row _ _ 0 _ _ (0, 0) DD.out.res
    simp only [List.getElem?_toArray, List.getElem?_cons_zero] at u0
    refine bodyPost_ret (v := .tuple #[.agg #[.slice a n c], .int .i64 u]) (by simp [results, Try.results34, go_sem, *]) rfl ⟨a, n, c, L, u, rfl, ⟨DD.out.ia, hn⟩, DD.out.bel⟩

set_option maxRecDepth 100000 in
set_option maxHeartbeats 8000000 in
theorem s_DrawIsValidProfile (a0 : Option Addr) (n0 c0 : Nat) (w : World) (h : BytesAt w a0 n0) :
    Calls Try.prog 93 #[.slice a0 n0 c0] w fun e w' => ∃ (a : Option Addr) (n c : Nat) (L : List Int), e = .returned (.agg #[.slice a n c]) ∧ (IntsAt w' a n L ∧ n ≤ 24 ∧ ∀ b o, a = some ⟨b, o, none⟩ → w.heap.size ≤ b) ∧ Below w.heap.size w w' := by
  have H := hid h
  clear h
  go_enter Try.func93, Try.ntmps93
  go_upto_region 2 with fail
  have C0 := hid (Cur.start (c := c0) (g := w.heap.size + 1) (H.out.below (by go_grown : Below w.heap.size w (w.alloc (.cells #[.slice none 0 0] 26)))) (by simp))
  have R0 : ((w.alloc (.cells #[.slice none 0 0] 26)).alloc (.cells #[.slice a0 n0 c0, .int .i64 0, .int .u64 0] 85)).heap[w.heap.size]? = some (.cells #[.slice none 0 0] 26 (0, 0)) := (Below.heap_alloc _ _ _ (by simp)).trans (heap_alloc_new _ _)
  have B0 : Below w.heap.size w ((w.alloc (.cells #[.slice none 0 0] 26)).alloc (.cells #[.slice a0 n0 c0, .int .i64 0, .int .u64 0] 85)) := by go_grown
  have hz0 : ((w.alloc (.cells #[.slice none 0 0] 26)).alloc (.cells #[.slice a0 n0 c0, .int .i64 0, .int .u64 0] 85)).heap.size = w.heap.size + 1 + 1 := by simp
  generalize (w.alloc (.cells #[.slice none 0 0] 26)).alloc (.cells #[.slice a0 n0 c0, .int .i64 0, .int .u64 0] 85) = w0 at *
  go_wp2_with fail
  refine (c_profile _ 0 _ C0.out (by omega)).mono ?_
  rintro e w1 ⟨⟨a, n, c, rfl, hn, L, hI, hfr⟩, hc1, hg1⟩
  have HR := hid ((hg1.block w.heap.size (by omega) (fun e => by have := Option.some.inj e; omega)).trans R0)
  have HB := hid (B0.grown hg1 (by omega) (fun q e => by have := Option.some.inj e; omega))
  have HI := hid hI
  have HF := hid (show ∀ b o, a = some ⟨b, o, none⟩ → w.heap.size < b from fun b o e => by have := hfr b o e; omega)
  clear C0 R0 B0 hI hfr hc1 hg1 hz0
  have n0 : w1.cell? ⟨w.heap.size, 0, none⟩ = some (.slice none 0 0) := by rw [cell_of_row _ _ _ _ _ (0, 0) HR.out]; rfl
  have g0 := frozen_of_row _ _ 0 _ _ HR.out
  have hz := (Array.getElem?_eq_some_iff.1 HR.out).1
  go_wp2
  have e7 := heap_setCell_same _ _ 0 _ _ (.slice a n c) HR.out
  have u0 := cell_of_row _ _ 0 _ _ (0, 0) e7
  simp only [List.setIfInBounds_toArray, List.set_cons_zero, List.getElem?_toArray, List.getElem?_cons_zero] at u0
  refine bodyPost_ret (v := .agg #[.slice a n c]) (by simp [results, Try.results93, go_sem, *]) rfl ⟨a, n, c, L, rfl, ⟨HI.out.kept (grown_setCell w1 w.heap.size 0 _) (fun b o e e2 => by have := HF.out b o e; have := Option.some.inj e2; omega), hn, fun b o e => by have := HF.out b o e; omega⟩, HB.out.setCell (Nat.le_refl _) _⟩

set_option maxRecDepth 100000 in
set_option maxHeartbeats 8000000 in
theorem s_DrawPeakHour (a0 : Option Addr) (n0 c0 : Nat) (w : World) (h : BytesAt w a0 n0) :
    Calls Try.prog 37 #[.slice a0 n0 c0] w fun e w' => ∃ (a : Option Addr) (n c : Nat) (L : List Int), e = .returned (.agg #[.slice a n c]) ∧ (IntsAt w' a n L ∧ n ≤ 24 ∧ ∀ b o, a = some ⟨b, o, none⟩ → w.heap.size ≤ b) ∧ Below w.heap.size w w' := by
  have H := hid h
  clear h
  go_enter Try.func37, Try.ntmps37
  go_wp2_with fail
  refine (s_DrawIsValidProfile _ _ _ _ (H.out.below (by go_grown))).mono ?_
  rintro e w1 ⟨a, n, c, L, rfl, ⟨hI, hn, hfr⟩, hb⟩
  have HR := hid ((hb.block w.heap.size (by simp)).trans (heap_alloc_new _ _))
  have HB := hid (bstep (by go_grown) hb : Below w.heap.size w w1)
  have HI := hid hI
  have HF := hid (show ∀ b o, a = some ⟨b, o, none⟩ → w.heap.size < b from fun b o e => by have := hfr b o e; simp at this; omega)
  clear hI hfr hb
  have n0 : w1.cell? ⟨w.heap.size, 0, none⟩ = some (.slice none 0 0) := by rw [cell_of_row _ _ _ _ _ (0, 0) HR.out]; rfl
  have g0 := frozen_of_row _ _ 0 _ _ HR.out
  have hz := (Array.getElem?_eq_some_iff.1 HR.out).1
  go_wp2
  have e7 := heap_setCell_same _ _ 0 _ _ (.slice a n c) HR.out
  have u0 := cell_of_row _ _ 0 _ _ (0, 0) e7
  simp only [List.setIfInBounds_toArray, List.set_cons_zero, List.getElem?_toArray, List.getElem?_cons_zero] at u0
  refine bodyPost_ret (v := .agg #[.slice a n c]) (by simp [results, Try.results37, go_sem, *]) rfl ⟨a, n, c, L, rfl, ⟨HI.out.kept (grown_setCell w1 w.heap.size 0 _) (fun b o e e2 => by have := HF.out b o e; have := Option.some.inj e2; omega), hn, fun b o e => by have := HF.out b o e; omega⟩, HB.out.setCell (Nat.le_refl _) _⟩

end Go.Proofs.Ytpmffboojkfpdaa

/-
  FlattenProfile in the program.
-/
set_option linter.unusedVariables false
set_option linter.unusedSimpArgs false
namespace Go.Proofs.Ytpmffboojkfpdaa
open Go.RowKit

theorem pk_max {L : List Int} {r : Int} (hl : L.length = 24) (h1 : r ∈ L) (h2 : ∀ x ∈ L, x ≤ r) : r = el L (pkTo L 24) := by
  have hp := pkTo_lt L 24 (by omega)
  obtain ⟨j, hj, rfl⟩ := mem_el h1
  have a := pkTo_max L 24 j (by omega)
  have b := h2 _ (getD_mem' (l := L) (k := pkTo L 24) (by omega))
  simp only [el] at a b ⊢
  omega
theorem lw_min {L : List Int} {r : Int} (hl : L.length = 24) (h1 : r ∈ L) (h2 : ∀ x ∈ L, r ≤ x) : r = el L (lwTo L 24) := by
  have hp := lwTo_lt L 24 (by omega)
  obtain ⟨j, hj, rfl⟩ := mem_el h1
  have a := lwTo_min L 24 j (by omega)
  have b := h2 _ (getD_mem' (l := L) (k := lwTo L 24) (by omega))
  simp only [el] at a b ⊢
  omega

set_option maxRecDepth 100000 in
set_option maxHeartbeats 4000000 in
theorem i_FlattenProfile_yes (a : Option Addr) (n c : Nat) (most : Int) (l : List Int) (w : World) (hA : IntsAt w a n l) (h1 : goodProf l = true) (h2 : inR most 100 1000 = true) :
    Calls Try.prog 27 #[.agg #[.slice a n c], .int .i64 most] w fun e w' => ∃ a' c', e = .returned (.tuple #[.agg #[.slice a' 24 c'], .bool true]) ∧ OwnI w' w.heap.size (.slice a' 24 c') (fin most l) ∧ Below w.heap.size w w' := by
  have hn : n = 24 := by have := hA.1; have := (goodProf_iff.1 h1).1; omega
  have hm := inR_iff.1 h2
  have H := hid hA
  have HG := hid h1
  have H2 := hid h2
  clear hA h1 h2
  subst hn
  go_enter Try.func27, Try.ntmps27
  go_wp2_with fail
  refine (i_IsValidProfile _ _ _ l _ (H.out.below (by go_grown)) (by omega)).mono ?_
  rintro e w1 ⟨rfl, hb1⟩
  rw [HG.out]
  have HB1 := hid (bstep (by go_grown) hb1 : Below w.heap.size w w1)
  have hz := hb1.size
  simp only [World.size_alloc] at hz
  have T1 := hid ((hb1.block (w.heap.size + 1) (by simp)).trans (last_newP (w.alloc _) _ _ (by simp)))
  have hz1 : w.heap.size + 1 < w1.heap.size := by omega
  have n0 : w1.cell? ⟨w.heap.size + 1, 0, none⟩ = some (.slice none 0 0) := by rw [cell_of_row w1 _ _ _ _ (0, 0) T1.out]; rfl
  have f0 := frozen_of_row w1 _ 0 _ _ T1.out
  have hb0 := (hb1.block w.heap.size (by simp <;> omega)).trans (mid_new w _ _ _ rfl)
  clear hb1
  have T0 := hid (hb0 : w1.heap[w.heap.size]? = some (.cells #[.slice a 24 c] 26 (0, 0)))
  have m0 : w1.cell? ⟨w.heap.size, 0, none⟩ = some (.slice a 24 c) := by rw [cell_of_row w1 _ _ _ _ (0, 0) T0.out]; rfl
  have hz0 : w.heap.size < w1.heap.size := by omega
  go_wp2_with fail
  refine (i_inside _ _ _ _).mono ?_
  rintro e _ ⟨rfl, rfl⟩
  rw [H2.out]
  clear n0 f0 hb0
  go_wp2_with fail
  refine (i_copyInts _ _ _ l _ (H.out.below HB1.out) (by omega)).mono ?_
  rintro e w2 ⟨a2, c2, rfl, ho, hb2⟩
  obtain ⟨g, rfl, hg1, hg2⟩ := own_some ho (by decide)
  have HO := hid ho
  have HB2 := hid (bstep HB1.out hb2)
  have T2 := hid ((hb2.block (w.heap.size + 1) hz1).trans T1.out)
  clear ho hb2 m0
  go_wp2
  go_loopg [] (exc most l).toNat (fun gh wr => ∃ L : List Int, gh = (exc most L).toNat ∧ Hid (OwnI wr w1.heap.size (.slice (some ⟨g, 0, none⟩) 24 c2) L ∧ goodProf L = true ∧ fin most L = fin most l ∧ Below w.heap.size w wr) ∧ Hid (wr.heap[w.heap.size + 1]? = some (.cells #[.slice none 0 0] 26 (0, 0))))
  case atStart => exact ⟨l, rfl, hid ⟨HO.out, HG.out, rfl, HB2.out⟩, T2⟩
  case round =>
    obtain ⟨L, rfl, hh, hT⟩ := hrel
    have hL := (goodProf_iff.1 hh.out.2.1).1
    have hpl := pkTo_lt L 24 (by omega)
    have htl := lwTo_lt L 24 (by omega)
    have hb : ∀ j, j < 24 → 0 ≤ el L j ∧ el L j ≤ 1000 := fun j hj => (goodProf_iff.1 hh.out.2.1).2.1 _ (getD_mem' (by omega))
    have hbp := hb _ hpl
    have hbt := hb _ htl
    clear hb
    go_wp2_with fail
    refine (f_Max _ _ _ L _ hh.out.1.at (by omega) (by omega)).mono ?_
    rintro e _ ⟨⟨r, rfl, r1, r2⟩, rfl⟩
    obtain rfl := pk_max hL r1 r2
    clear r1 r2
    by_cases hgt : most < el L (pkTo L 24)
    · have hlow := low_small hh.out.2.1 (by omega)
      have hne : pkTo L 24 ≠ lwTo L 24 := fun e => by rw [e] at hgt; omega
      have SG := hid (stepF_good hh.out.2.1 hm.1 hgt)
      have SF := hid (fin_step hh.out.2.1 hm.1 hgt)
      have hcp := hh.out.1.cell (k := pkTo L 24) hpl
      have hct := hh.out.1.cell (k := lwTo L 24) htl
      have hfp := hh.out.1.frozen (k := pkTo L 24)
      have hft := hh.out.1.frozen (k := lwTo L 24)
      have hex := exc_pos most (stepF L)
      have hex2 := SG.out.2
      go_wp2_with fail
      refine (f_Max _ _ _ L _ hh.out.1.at (by omega) (by omega)).mono ?_
      rintro e _ ⟨⟨r, rfl, r1, r2⟩, rfl⟩
      obtain rfl := pk_max hL r1 r2
      clear r1 r2
      go_wp2_with fail
      refine (f_Index _ _ _ (pkTo L 24) _ L _ hh.out.1.at (by omega) hpl rfl (fun j hj => by have := pkTo_first L 24 j hj; omega)).mono ?_
      rintro e _ ⟨rfl, rfl⟩
      go_wp2_with fail
      refine (f_Min _ _ _ L _ hh.out.1.at (by omega) (by omega)).mono ?_
      rintro e _ ⟨⟨r, rfl, r1, r2⟩, rfl⟩
      obtain rfl := lw_min hL r1 r2
      clear r1 r2
      go_wp2_with fail
      refine (f_Index _ _ _ (lwTo L 24) _ L _ hh.out.1.at (by omega) htl rfl (fun j hj => by have := lwTo_first L 24 j hj; omega)).mono ?_
      rintro e _ ⟨rfl, rfl⟩
      have hne2 : ¬ lwTo L 24 = pkTo L 24 := fun e => hne e.symm
      clear hL
      have hbp' : 0 ≤ L[pkTo L 24]?.getD 0 ∧ L[pkTo L 24]?.getD 0 ≤ 1000 := hbp
      have hbt' : 0 ≤ L[lwTo L 24]?.getD 0 ∧ L[lwTo L 24]?.getD 0 ≤ 1000 := hbt
      go_wp2
      go_roundg (exc most (stepF L)).toNat
      case rel =>
        obtain ⟨o1, o2⟩ := own_step hh.out.1 hne
        exact ⟨stepF L, rfl, hid ⟨o1, SG.out.1, SF.out.symm.trans hh.out.2.2.1, hh.out.2.2.2.grown o2 hh.out.2.2.2.size (fun q hq => by have := HB1.out.size; simp only [Option.some.injEq] at hq; omega)⟩, hid (other_cell (other_cell hT.out (by omega)) (by omega))⟩
      case measure => omega
    · have FD := hid (fin_done hgt)
      have hz9 : w.heap.size + 1 < wr.heap.size := (Array.getElem?_eq_some_iff.1 hT.out).1
      have n0 : wr.cell? ⟨w.heap.size + 1, 0, none⟩ = some (.slice none 0 0) := by rw [cell_of_row wr _ _ _ _ (0, 0) hT.out]; rfl
      have f0 := frozen_of_row wr _ 0 _ _ hT.out
      go_wp2
      have e7 := heap_setCell_same _ _ 0 _ _ (.slice (some ⟨g, 0, none⟩) 24 c2) hT.out
      have u0 := cell_of_row _ _ 0 _ _ (0, 0) e7
      simp only [List.setIfInBounds_toArray, List.set_cons_zero, List.getElem?_toArray, List.getElem?_cons_zero] at u0
      refine bodyPost_ret (v := .tuple #[.agg #[.slice (some ⟨g, 0, none⟩) 24 c2], .bool true]) (by simp [results, Try.results27, go_sem, *]) rfl ⟨_, _, rfl, ?_, ?_⟩
      · have e : fin most l = L := hh.out.2.2.1.symm.trans FD.out
        rw [e]
        exact (hh.out.1.far (by have := HB1.out.size; omega)).mono HB1.out.size
      · exact hh.out.2.2.2.setCell (by show _ ≤ w.heap.size + 1; omega) _

end Go.Proofs.Ytpmffboojkfpdaa

