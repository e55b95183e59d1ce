/-
  Texts of this claim, joined: CurN5, Down, TreeA, Funcs.
-/
import Derived.Test.YtlnhikhpkcgegaaLo1
import Derived.Test.YtlnhikhpkcgegaaLo3
import Derived.Test.YtlnhikhpkcgegaaLo4
import Derived.Test.YtlnhikhpkcgegaaLo5
import Derived.Test.YtlnhikhpkcgegaaLo6
import Derived.Test.YtlnhikhpkcgegaaLo8
/-
  The draws of trees and of pipes.
-/
set_option linter.unusedVariables false
set_option linter.unusedSimpArgs false
namespace Go.Proofs.Ytlnhikhpkcgegaa
open Go.RowKit

theorem q_cap {w : World} {B n c : Nat} {a : Option Addr} {l : List Pip} (h : OwnQ w B (.slice a n c) l) : n ≤ c := by
  have hl := OwnS.len h
  rcases (show w.ownsRow _ _ _ _ _ _ from h).2 with ⟨h1, h0⟩ | ⟨g, cap, cur, h1, hB, hg, hnc, -⟩
  · simp only [Value.slice.injEq] at h1
    omega
  · simp only [Value.slice.injEq] at h1
    omega

set_option maxRecDepth 100000 in
set_option maxHeartbeats 8000000 in
theorem c_treeNetwork (g K : Nat) (w : World) (h : Cur w g K) (hK : K ≤ 100000000) :
    Calls Try.prog 62 #[.pointer (some ⟨g, 0, none⟩)] w fun e w' => (∃ (N : Int) (a : Option Addr) (m c : Nat), e = .returned (.agg #[.int .i64 N, .slice a m c]) ∧ (0 ≤ N ∧ N ≤ 9 ∧ m ≤ 11) ∧ ∃ L : List Pip, OwnQ w' w.heap.size (.slice a m c) L) ∧ Cur w' g (K + 500) ∧ w.grownBy w' (some g) := by
  have H := hid h
  have hgz := h.lt
  clear h
  have B0 := hid (by go_grown : Below w.heap.size w (w.alloc (.cells #[.int .i64 0, .slice none 0 0] 26)))
  have T0 := hid (heap_alloc_new w (.cells #[.int .i64 0, .slice none 0 0] 26))
  have hz0 : w.heap.size < (w.alloc (.cells #[.int .i64 0, .slice none 0 0] 26)).heap.size := by simp
  go_enter Try.func62, Try.ntmps62
  go_upto_region 1 with fail
  generalize w.alloc (.cells #[.int .i64 0, .slice none 0 0] 26) = w0 at *
  go_wp2_with fail
  refine (c_anyNetwork g K _ (H.out.below B0.out) (by omega)).mono ?_
  rintro e w1 ⟨⟨N, a, m, c, rfl, ⟨hN0, hN1, hm⟩, L, ho⟩, hc1, hg1⟩
  have hz1 := hg1.size
  have HC := hid hc1
  have HG := hid hg1
  have HO := hid ho
  clear hc1 hg1 ho
  go_upto_region 2 with fail
  have S2 := hid (show NB w0 (w1.alloc (.cells #[.int .i64 N, .slice a m c] 26)) g w1.heap.size (K + 400) N a m c L from
    ⟨HC.out.below (by go_grown), grownBy_trans HG.out (grown_of_below (by go_grown) _), heap_alloc_new _ _, OwnS.below HO.out (by go_grown), fun k e => by have := (OwnS.lt HO.out k e).2; omega, by omega, by omega⟩)
  clear HC HG HO
  obtain ⟨b3, hb3⟩ : ∃ b3, w1.heap.size = b3 := ⟨_, rfl⟩
  rw [hb3] at S2 hz1 ⊢
  generalize w1.alloc (.cells #[.int .i64 N, .slice a m c] 26) = w2 at *
  clear hb3
  have hgb := S2.out.gb
  obtain ⟨m0, m1⟩ := two_of S2.out.box
  have hlt2 := S2.out.lt
  refine wp_region_noPanic ?_
  refine wp_region_held_drew (S := (fun w' => w'.cell? ⟨b3, 0, none⟩ = some (.int .i64 N) ∧ w'.cell? ⟨b3, 1, none⟩ = some (.slice a m c))) (by kernel_rfl) (by exact ⟨m0, m1⟩) (fun hHeld => ?_)
  refine wpAnyH_take' (i := 0) (v := ?_) rfl (by kernel_rfl) (by kernel_rfl) (by kernel_rfl) (fun _ _ _ h => h) (Or.inl ⟨by rfl, ?_⟩) (by assumption) ?_
  rotate_left
  · (intro w' hSw; (try dsimp only at hSw); go_simp; all_goals with_reducible rfl)
  try simp only [Act.put, List.setIfInBounds_toArray, List.set_cons_zero, List.set_cons_succ]
  refine wpAnyH_ready (rs := [1]) (by kernel_rfl) (by simp) ?_
  refine allReadyH_cons' rfl (fun Kn hKn => ?_) AllReadyH.nil
  go_simp
  go_at_call 89
  refine (s_l2Good N _ _ _ L _ (OwnS.at qf_len (S2.out.below (by go_grown)).own) (by omega)).mono ?_
  rintro e w3 ⟨rfl, hb3⟩
  have S3 := hid (S2.out.below (bstep (by go_grown) hb3))
  clear hb3 m0 m1 hlt2 S2
  obtain ⟨m0, m1⟩ := two_of S3.out.box
  have hlt3 := S3.out.lt
  refine hKn.out _ _ ⟨m0, m1⟩ (fun hHeldN => ?_)
  clear hKn Kn hHeld
  have hHeld := hHeldN
  clear hHeldN
  try simp only [Act.put, List.setIfInBounds_toArray, List.set_cons_zero, List.set_cons_succ]
  cases hgd : goodNet N L
  · clear hgd
    refine wpAnyH_take' (i := 2) (v := ?_) rfl (by kernel_rfl) (by kernel_rfl) (by kernel_rfl) (fun _ _ _ h => h) (Or.inl ⟨by rfl, ?_⟩) (by assumption) ?_
    rotate_left
    · (intro w' hSw; (try dsimp only at hSw); go_simp; all_goals with_reducible rfl)
    try simp only [Act.put, List.setIfInBounds_toArray, List.set_cons_zero, List.set_cons_succ]
    refine wpAnyH_take' (i := 3) (v := undef) rfl (by kernel_rfl) (by kernel_rfl) (by kernel_rfl) (fun _ _ _ h => h) (Or.inr ⟨by rfl, rfl⟩) (by assumption) ?_
    try simp only [Act.put, List.setIfInBounds_toArray, List.set_cons_zero, List.set_cons_succ]
    refine wpAnyH_take' (i := 4) (v := undef) rfl (by kernel_rfl) (by kernel_rfl) (by kernel_rfl) (fun _ _ _ h => h) (Or.inr ⟨by rfl, rfl⟩) (by assumption) ?_
    try simp only [Act.put, List.setIfInBounds_toArray, List.set_cons_zero, List.set_cons_succ]
    refine wpAnyH_take' (i := 5) (v := undef) rfl (by kernel_rfl) (by kernel_rfl) (by kernel_rfl) (fun _ _ _ h => h) (Or.inr ⟨by rfl, rfl⟩) (by assumption) ?_
    try simp only [Act.put, List.setIfInBounds_toArray, List.set_cons_zero, List.set_cons_succ]
    refine wpAnyH_take' (i := 6) (v := undef) rfl (by kernel_rfl) (by kernel_rfl) (by kernel_rfl) (fun _ _ _ h => h) (Or.inr ⟨by rfl, rfl⟩) (by assumption) ?_
    try simp only [Act.put, List.setIfInBounds_toArray, List.set_cons_zero, List.set_cons_succ]
    refine wpAnyH_take' (i := 7) (v := undef) rfl (by kernel_rfl) (by kernel_rfl) (by kernel_rfl) (fun _ _ _ h => h) (Or.inr ⟨by rfl, rfl⟩) (by assumption) ?_
    try simp only [Act.put, List.setIfInBounds_toArray, List.set_cons_zero, List.set_cons_succ]
    refine wpAnyH_take' (i := 8) (v := undef) rfl (by kernel_rfl) (by kernel_rfl) (by kernel_rfl) (fun _ _ _ h => h) (Or.inr ⟨by rfl, rfl⟩) (by assumption) ?_
    try simp only [Act.put, List.setIfInBounds_toArray, List.set_cons_zero, List.set_cons_succ]
    refine wpAnyH_take' (i := 9) (v := ?_) rfl (by kernel_rfl) (by kernel_rfl) (by kernel_rfl) (fun _ _ _ h => h) (Or.inl ⟨by rfl, ?_⟩) (by assumption) ?_
    rotate_left
    · (intro w' hSw; (try dsimp only at hSw); go_simp; all_goals with_reducible rfl)
    try simp only [Act.put, List.setIfInBounds_toArray, List.set_cons_zero, List.set_cons_succ]
    refine wpAnyH_take' (i := 10) (v := ?_) rfl (by kernel_rfl) (by kernel_rfl) (by kernel_rfl) (fun _ _ _ h => h) (Or.inl ⟨by rfl, ?_⟩) (by assumption) ?_
    rotate_left
    · (intro w' hSw; (try dsimp only at hSw); go_simp; all_goals with_reducible rfl)
    try simp only [Act.put, List.setIfInBounds_toArray, List.set_cons_zero, List.set_cons_succ]
    refine wpAnyH_take' (i := 11) (v := undef) rfl (by kernel_rfl) (by kernel_rfl) (by kernel_rfl) (fun _ _ _ h => h) (Or.inr ⟨by rfl, rfl⟩) (by assumption) ?_
    try simp only [Act.put, List.setIfInBounds_toArray, List.set_cons_zero, List.set_cons_succ]
    refine wpAnyH_take' (i := 12) (v := undef) rfl (by kernel_rfl) (by kernel_rfl) (by kernel_rfl) (fun _ _ _ h => h) (Or.inr ⟨by rfl, rfl⟩) (by assumption) ?_
    try simp only [Act.put, List.setIfInBounds_toArray, List.set_cons_zero, List.set_cons_succ]
    refine wpAnyH_take' (i := 13) (v := undef) rfl (by kernel_rfl) (by kernel_rfl) (by kernel_rfl) (fun _ _ _ h => h) (Or.inr ⟨by rfl, rfl⟩) (by assumption) ?_
    try simp only [Act.put, List.setIfInBounds_toArray, List.set_cons_zero, List.set_cons_succ]
    refine wpAnyH_take' (i := 14) (v := ?_) rfl (by kernel_rfl) (by kernel_rfl) (by kernel_rfl) (fun _ _ _ h => h) (Or.inl ⟨by rfl, ?_⟩) (by assumption) ?_
    rotate_left
    · (intro w' hSw; (try dsimp only at hSw); go_simp; all_goals with_reducible rfl)
    try simp only [Act.put, List.setIfInBounds_toArray, List.set_cons_zero, List.set_cons_succ]
    refine wpAnyH_done (by kernel_rfl) ?_ _
    refine NoPanic.normal ?_
    clear hHeld
    clear m0 m1
    have TZ := hid ((S3.out.gro.block w.heap.size hz0 (fun e => by have := Option.some.inj e; omega)).trans T0.out)
    obtain ⟨z0, z1⟩ := two_of TZ.out
    obtain ⟨e0, e1⟩ := two_of S3.out.box
    have hblo := S3.out.lo
    have hblt := S3.out.lt
    have fz := fun j => frozen_of_row w3 w.heap.size j _ _ TZ.out
    have hne : ¬ w.heap.size = b3 := by omega
    have hne2 : ¬ b3 = w.heap.size := by omega
    have hzr : w.heap.size < (w3).heap.size := by omega
    go_wp2
    refine bodyPost_ret (v := .agg #[.int .i64 N, .slice a m c]) (by simp [results, Try.results62, go_sem, *]) rfl ⟨⟨N, a, m, c, rfl, ⟨by omega, by omega, by omega⟩, L, ?_⟩, ?_, ?_⟩
    · exact ((OwnS.far (OwnS.far S3.out.own (by omega)) (by omega))).mono (by omega)
    · exact (((S3.out.cur.le (by omega)).set hgz).set hgz)
    · exact grown_set (grown_set (grownBy_trans (grown_of_below B0.out _) S3.out.gro) (Nat.le_refl _)) (Nat.le_refl _)
  · have HG := hid hgd
    clear hgd
    obtain ⟨M, rfl⟩ : ∃ M : Nat, N = M := ⟨N.toNat, by omega⟩
    have hM1 : (1 : Int) ≤ M := by have := (goodNet_get HG.out).1; omega
    refine wpAnyH_take' (i := 2) (v := ?_) rfl (by kernel_rfl) (by kernel_rfl) (by kernel_rfl) (fun _ _ _ h => h) (Or.inl ⟨by rfl, ?_⟩) (by assumption) ?_
    rotate_left
    · (intro w' hSw; (try dsimp only at hSw); go_simp; all_goals with_reducible rfl)
    try simp only [Act.put, List.setIfInBounds_toArray, List.set_cons_zero, List.set_cons_succ]
    refine wpAnyH_take' (i := 3) (v := ?_) rfl (by kernel_rfl) (by kernel_rfl) (by kernel_rfl) (fun _ _ _ h => h) (Or.inl ⟨by rfl, ?_⟩) (by assumption) ?_
    rotate_left
    · (intro w' hSw; (try dsimp only at hSw); go_simp; all_goals with_reducible rfl)
    try simp only [Act.put, List.setIfInBounds_toArray, List.set_cons_zero, List.set_cons_succ]
    refine wpAnyH_take' (i := 6) (v := ?_) rfl (by kernel_rfl) (by kernel_rfl) (by kernel_rfl) (fun _ _ _ h => h) (Or.inl ⟨by rfl, ?_⟩) (by assumption) ?_
    rotate_left
    · (intro w' hSw; (try dsimp only at hSw); go_simp; all_goals with_reducible rfl)
    try simp only [Act.put, List.setIfInBounds_toArray, List.set_cons_zero, List.set_cons_succ]
    refine wpAnyH_take' (i := 7) (v := ?_) rfl (by kernel_rfl) (by kernel_rfl) (by kernel_rfl) (fun _ _ _ h => h) (Or.inl ⟨by rfl, ?_⟩) (by assumption) ?_
    rotate_left
    · (intro w' hSw; (try dsimp only at hSw); go_simp; all_goals with_reducible rfl)
    try simp only [Act.put, List.setIfInBounds_toArray, List.set_cons_zero, List.set_cons_succ]
    refine wpAnyH_ready (rs := [4]) (by kernel_rfl) (by simp) ?_
    refine allReadyH_cons' rfl (fun Kn hKn => ?_) AllReadyH.nil
    go_simp
    go_at_call 95
    refine (s_l2Reached M 1 _ _ _ L _ (OwnS.at qf_len (S3.out.below (by go_grown)).own) HG.out (by omega)).mono ?_
    rintro e w4 ⟨g4, c4, rfl, ho4, hb4⟩
    have S4 := hid (S3.out.below (bstep (by go_grown) hb4))
    clear hb4 ho4 m0 m1 hlt3 S3
    obtain ⟨m0, m1⟩ := two_of S4.out.box
    have hlt4 := S4.out.lt
    obtain ⟨q, hq⟩ : ∃ q, (reachL M L 0 1).length = q := ⟨_, rfl⟩
    rw [hq]
    clear hq
    refine hKn.out _ _ ⟨m0, m1⟩ (fun hHeldN => ?_)
    clear hKn Kn hHeld
    have hHeld := hHeldN
    clear hHeldN
    try simp only [Act.put, List.setIfInBounds_toArray, List.set_cons_zero, List.set_cons_succ]
    refine wpAnyH_take' (i := 5) (v := ?_) rfl (by kernel_rfl) (by kernel_rfl) (by kernel_rfl) (fun _ _ _ h => h) (Or.inl ⟨by rfl, ?_⟩) (by assumption) ?_
    rotate_left
    · (intro w' hSw; (try dsimp only at hSw); go_simp; all_goals with_reducible rfl)
    try simp only [Act.put, List.setIfInBounds_toArray, List.set_cons_zero, List.set_cons_succ]
    cases hcmp : ((q : Int) == (M : Int))
    · refine wpAnyH_take' (i := 8) (v := ?_) rfl (by kernel_rfl) (by kernel_rfl) (by kernel_rfl) (fun _ _ _ h => h) (Or.inl ⟨by rfl, ?_⟩) (by assumption) ?_
      rotate_left
      · (intro w' hSw; (try dsimp only at hSw); go_simp; all_goals with_reducible rfl)
      try simp only [Act.put, List.setIfInBounds_toArray, List.set_cons_zero, List.set_cons_succ]
      refine wpAnyH_take' (i := 9) (v := ?_) rfl (by kernel_rfl) (by kernel_rfl) (by kernel_rfl) (fun _ _ _ h => h) (Or.inl ⟨by rfl, ?_⟩) (by assumption) ?_
      rotate_left
      · (intro w' hSw; (try dsimp only at hSw); go_simp; all_goals with_reducible rfl)
      try simp only [Act.put, List.setIfInBounds_toArray, List.set_cons_zero, List.set_cons_succ]
      refine wpAnyH_take' (i := 10) (v := ?_) rfl (by kernel_rfl) (by kernel_rfl) (by kernel_rfl) (fun _ _ _ h => h) (Or.inl ⟨by rfl, ?_⟩) (by assumption) ?_
      rotate_left
      · (intro w' hSw; (try dsimp only at hSw); go_simp; all_goals with_reducible rfl)
      try simp only [Act.put, List.setIfInBounds_toArray, List.set_cons_zero, List.set_cons_succ]
      refine wpAnyH_take' (i := 11) (v := undef) rfl (by kernel_rfl) (by kernel_rfl) (by kernel_rfl) (fun _ _ _ h => h) (Or.inr ⟨by rfl, rfl⟩) (by assumption) ?_
      try simp only [Act.put, List.setIfInBounds_toArray, List.set_cons_zero, List.set_cons_succ]
      refine wpAnyH_take' (i := 12) (v := undef) rfl (by kernel_rfl) (by kernel_rfl) (by kernel_rfl) (fun _ _ _ h => h) (Or.inr ⟨by rfl, rfl⟩) (by assumption) ?_
      try simp only [Act.put, List.setIfInBounds_toArray, List.set_cons_zero, List.set_cons_succ]
      refine wpAnyH_take' (i := 13) (v := undef) rfl (by kernel_rfl) (by kernel_rfl) (by kernel_rfl) (fun _ _ _ h => h) (Or.inr ⟨by rfl, rfl⟩) (by assumption) ?_
      try simp only [Act.put, List.setIfInBounds_toArray, List.set_cons_zero, List.set_cons_succ]
      refine wpAnyH_take' (i := 14) (v := ?_) rfl (by kernel_rfl) (by kernel_rfl) (by kernel_rfl) (fun _ _ _ h => h) (Or.inl ⟨by rfl, ?_⟩) (by assumption) ?_
      rotate_left
      · (intro w' hSw; (try dsimp only at hSw); go_simp; all_goals with_reducible rfl)
      try simp only [Act.put, List.setIfInBounds_toArray, List.set_cons_zero, List.set_cons_succ]
      refine wpAnyH_done (by kernel_rfl) ?_ _
      refine NoPanic.normal ?_
      clear hHeld
      clear m0 m1
      have TZ := hid ((S4.out.gro.block w.heap.size hz0 (fun e => by have := Option.some.inj e; omega)).trans T0.out)
      obtain ⟨z0, z1⟩ := two_of TZ.out
      obtain ⟨e0, e1⟩ := two_of S4.out.box
      have hblo := S4.out.lo
      have hblt := S4.out.lt
      have fz := fun j => frozen_of_row w4 w.heap.size j _ _ TZ.out
      have hne : ¬ w.heap.size = b3 := by omega
      have hne2 : ¬ b3 = w.heap.size := by omega
      have hzr : w.heap.size < (w4).heap.size := by omega
      go_wp2
      refine bodyPost_ret (v := .agg #[.int .i64 M, .slice a m c]) (by simp [results, Try.results62, go_sem, *]) rfl ⟨⟨M, a, m, c, rfl, ⟨by omega, by omega, by omega⟩, L, ?_⟩, ?_, ?_⟩
      · exact ((OwnS.far (OwnS.far S4.out.own (by omega)) (by omega))).mono (by omega)
      · exact (((S4.out.cur.le (by omega)).set hgz).set hgz)
      · exact grown_set (grown_set (grownBy_trans (grown_of_below B0.out _) S4.out.gro) (Nat.le_refl _)) (Nat.le_refl _)
    · refine wpAnyH_take' (i := 8) (v := ?_) rfl (by kernel_rfl) (by kernel_rfl) (by kernel_rfl) (fun _ _ _ h => h) (Or.inl ⟨by rfl, ?_⟩) (by assumption) ?_
      rotate_left
      · (intro w' hSw; (try dsimp only at hSw); go_simp; all_goals with_reducible rfl)
      try simp only [Act.put, List.setIfInBounds_toArray, List.set_cons_zero, List.set_cons_succ]
      refine wpAnyH_take' (i := 9) (v := ?_) rfl (by kernel_rfl) (by kernel_rfl) (by kernel_rfl) (fun _ _ _ h => h) (Or.inl ⟨by rfl, ?_⟩) (by assumption) ?_
      rotate_left
      · (intro w' hSw; (try dsimp only at hSw); go_simp; all_goals with_reducible rfl)
      try simp only [Act.put, List.setIfInBounds_toArray, List.set_cons_zero, List.set_cons_succ]
      refine wpAnyH_take' (i := 10) (v := ?_) rfl (by kernel_rfl) (by kernel_rfl) (by kernel_rfl) (fun _ _ _ h => h) (Or.inl ⟨by rfl, ?_⟩) (by assumption) ?_
      rotate_left
      · (intro w' hSw; (try dsimp only at hSw); go_simp; all_goals with_reducible rfl)
      try simp only [Act.put, List.setIfInBounds_toArray, List.set_cons_zero, List.set_cons_succ]
      refine wpAnyH_take' (i := 11) (v := ?_) rfl (by kernel_rfl) (by kernel_rfl) (by kernel_rfl) (fun _ _ _ h => h) (Or.inl ⟨by rfl, ?_⟩) (by assumption) ?_
      rotate_left
      · (intro w' hSw; (try dsimp only at hSw); go_simp; all_goals with_reducible rfl)
      try simp only [Act.put, List.setIfInBounds_toArray, List.set_cons_zero, List.set_cons_succ]
      refine wpAnyH_ready (rs := [12]) (by kernel_rfl) (by simp) ?_
      refine allReadyH_cons' rfl (fun Kn hKn => ?_) AllReadyH.nil
      go_simp
      go_at_call 146
      refine (c_one g _ 5 _ S4.out.cur (by omega) (by omega)).mono ?_
      rintro e w5 ⟨⟨b, rfl⟩, hc5, hg5⟩
      have S5 := hid (S4.out.step hc5 hg5)
      clear hc5 hg5 m0 m1 hlt4 S4
      obtain ⟨m0, m1⟩ := two_of S5.out.box
      have hlt5 := S5.out.lt
      refine hKn.out _ _ ⟨m0, m1⟩ (fun hHeldN => ?_)
      clear hKn Kn hHeld
      have hHeld := hHeldN
      clear hHeldN
      try simp only [Act.put, List.setIfInBounds_toArray, List.set_cons_zero, List.set_cons_succ]
      refine wpAnyH_take' (i := 13) (v := ?_) rfl (by kernel_rfl) (by kernel_rfl) (by kernel_rfl) (fun _ _ _ h => h) (Or.inl ⟨by rfl, ?_⟩) (by assumption) ?_
      rotate_left
      · (intro w' hSw; (try dsimp only at hSw); go_simp; all_goals with_reducible rfl)
      try simp only [Act.put, List.setIfInBounds_toArray, List.set_cons_zero, List.set_cons_succ]
      refine wpAnyH_take' (i := 14) (v := ?_) rfl (by kernel_rfl) (by kernel_rfl) (by kernel_rfl) (fun _ _ _ h => h) (Or.inl ⟨by rfl, ?_⟩) (by assumption) ?_
      rotate_left
      · (intro w' hSw; (try dsimp only at hSw); go_simp; all_goals with_reducible rfl)
      try simp only [Act.put, List.setIfInBounds_toArray, List.set_cons_zero, List.set_cons_succ]
      refine wpAnyH_done (by kernel_rfl) ?_ _
      refine NoPanic.normal ?_
      clear hHeld
      cases b
      · go_wp2_with fail
        refine (s_l8Spanning M _ _ _ L _ (OwnS.at qf_len S5.out.own) HG.out).mono ?_
        rintro e w6 ⟨a6, m6, c6, rfl, ho6, hb6⟩
        have hm6 : m6 ≤ 11 := by
          have h1 := OwnS.len ho6
          have h2 := OwnS.len S5.out.own
          have h3 := span_len L (k := m) (by omega)
          omega
        have hz5 := S5.out.gro.size
        have S6 := hid ((S5.out.below hb6).swap (M := M) (OwnS.mono ho6 hz5) (fun k e => by have := (OwnS.lt ho6 k e).1; omega))
        have BX := hid (S5.out.below hb6).box
        have f6 := fun j => frozen_of_row w6 b3 j _ _ BX.out
        have hlt6 : b3 < w6.heap.size := by have := hb6.size; omega
        clear hb6 ho6 m0 m1
        obtain ⟨m0, m1⟩ := two_of BX.out
        go_upto_region 4 with fail
        generalize (w6.setCell ⟨b3, 0, none⟩ (.int .i64 M)).setCell ⟨b3, 1, none⟩ (.slice a6 m6 c6) = w7 at *
        clear m0 m1 f6 BX hlt6
        have TZ := hid ((S6.out.gro.block w.heap.size hz0 (fun e => by have := Option.some.inj e; omega)).trans T0.out)
        obtain ⟨z0, z1⟩ := two_of TZ.out
        obtain ⟨e0, e1⟩ := two_of S6.out.box
        have hblo := S6.out.lo
        have hblt := S6.out.lt
        have fz := fun j => frozen_of_row w7 w.heap.size j _ _ TZ.out
        have hne : ¬ w.heap.size = b3 := by omega
        have hne2 : ¬ b3 = w.heap.size := by omega
        have hzr : w.heap.size < (w7).heap.size := by omega
        go_wp2
        refine bodyPost_ret (v := .agg #[.int .i64 M, .slice a6 m6 c6]) (by simp [results, Try.results62, go_sem, *]) rfl ⟨⟨M, a6, m6, c6, rfl, ⟨by omega, by omega, by omega⟩, (span L m), ?_⟩, ?_, ?_⟩
        · exact ((OwnS.far (OwnS.far S6.out.own (by omega)) (by omega))).mono (by omega)
        · exact (((S6.out.cur.le (by omega)).set hgz).set hgz)
        · exact grown_set (grown_set (grownBy_trans (grown_of_below B0.out _) S6.out.gro) (Nat.le_refl _)) (Nat.le_refl _)
      · clear m0 m1
        have TZ := hid ((S5.out.gro.block w.heap.size hz0 (fun e => by have := Option.some.inj e; omega)).trans T0.out)
        obtain ⟨z0, z1⟩ := two_of TZ.out
        obtain ⟨e0, e1⟩ := two_of S5.out.box
        have hblo := S5.out.lo
        have hblt := S5.out.lt
        have fz := fun j => frozen_of_row w5 w.heap.size j _ _ TZ.out
        have hne : ¬ w.heap.size = b3 := by omega
        have hne2 : ¬ b3 = w.heap.size := by omega
        have hzr : w.heap.size < (w5).heap.size := by omega
        go_wp2
        refine bodyPost_ret (v := .agg #[.int .i64 M, .slice a m c]) (by simp [results, Try.results62, go_sem, *]) rfl ⟨⟨M, a, m, c, rfl, ⟨by omega, by omega, by omega⟩, L, ?_⟩, ?_, ?_⟩
        · exact ((OwnS.far (OwnS.far S5.out.own (by omega)) (by omega))).mono (by omega)
        · exact (((S5.out.cur.le (by omega)).set hgz).set hgz)
        · exact grown_set (grown_set (grownBy_trans (grown_of_below B0.out _) S5.out.gro) (Nat.le_refl _)) (Nat.le_refl _)

set_option maxRecDepth 100000 in
set_option maxHeartbeats 4000000 in
theorem c_pipeOf (g K : Nat) (N : Int) (a : Option Addr) (n c : Nat) (L : List Pip) (w : World) (h : Cur w g K) (hq : QAt w a n L) (hqg : ∀ b o, a = some ⟨b, o, none⟩ → b ≠ g) (hK : K ≤ 100000000) (hn : n ≤ 1000) :
    Calls Try.prog 84 #[.pointer (some ⟨g, 0, none⟩), .agg #[.int .i64 N, .slice a n c]] w fun e w' => (∃ v : Int, e = .returned (.int .i64 v)) ∧ Cur w' g (K + 4) ∧ w.grownBy w' (some g) := by
  have H := hid h
  have HQ := hid hq
  have HQG := hid hqg
  have hgz := h.lt
  clear h hq hqg
  have B0 := hid (by go_grown : Below w.heap.size w (w.alloc (.cells #[.int .i64 N, .slice a n c] 26)))
  have T0 := hid (heap_alloc_new w (.cells #[.int .i64 N, .slice a n c] 26))
  have hz0 : w.heap.size < (w.alloc (.cells #[.int .i64 N, .slice a n c] 26)).heap.size := by simp
  by_cases h1 : n = 0
  · subst h1
    go_enter Try.func84, Try.ntmps84
    go_upto_region 1 with fail
    generalize w.alloc (.cells #[.int .i64 N, .slice a 0 c] 26) = w0 at *
    obtain ⟨m0, m1⟩ := two_of T0.out
    go_wp2_with fail
    refine (c_pick g K 20 _ (H.out.below B0.out) (by omega) (by omega)).mono ?_
    rintro e w5 ⟨⟨v, rfl, -, -⟩, hc5, hg5⟩
    have W5 := hid (show Cur w5 g (K + 2) ∧ w.grownBy w5 (some g) from ⟨hc5, grownBy_trans (grown_of_below B0.out _) hg5⟩)
    clear hc5 hg5
    go_wp2
    go_ret
    exact ⟨⟨_, rfl⟩, W5.out.1.le (by omega), W5.out.2⟩
  · have hd : ((n : Int) == 0) = false := by simp; omega
    have hd2 : ¬ (n : Int) = 0 := by omega
    go_enter Try.func84, Try.ntmps84
    go_upto_region 1 with fail
    generalize w.alloc (.cells #[.int .i64 N, .slice a n c] 26) = w0 at *
    obtain ⟨m0, m1⟩ := two_of T0.out
    go_wp2_with fail
    refine (c_one g K 10 _ (H.out.below B0.out) (by omega) (by omega)).mono ?_
    rintro e w5 ⟨⟨b, rfl⟩, hc5, hg5⟩
    have W5 := hid (show Cur w5 g (K + 2) ∧ w.grownBy w5 (some g) ∧ w5.heap[w.heap.size]? = some (.cells #[.int .i64 N, .slice a n c] 26 (0, 0)) from ⟨hc5, grownBy_trans (grown_of_below B0.out _) hg5, (hg5.block _ hz0 (fun e => by have := Option.some.inj e; omega)).trans T0.out⟩)
    have hz5 := hg5.size
    have hzw : w.heap.size < w5.heap.size := by omega
    clear hc5 hg5 m0 m1
    obtain ⟨m0, m1⟩ := two_of W5.out.2.2
    cases b
    · go_upto_region 3 with fail
      refine wp_region_noPanic ?_
      refine wp_region_held_drew (S := (fun w' => w'.cell? ⟨w.heap.size, 1, none⟩ = some (.slice a n c))) (by kernel_rfl) (by exact m1) (fun hHeld => ?_)
      refine wpAnyH_take' (i := 0) (v := ?_) rfl (by kernel_rfl) (by kernel_rfl) (by kernel_rfl) (fun _ _ _ h => h) (Or.inl ⟨by rfl, ?_⟩) (by assumption) ?_
      rotate_left
      · (intro w' hSw; (try dsimp only at hSw); go_simp; all_goals with_reducible rfl)
      try simp only [Act.put, List.setIfInBounds_toArray, List.set_cons_zero, List.set_cons_succ]
      refine wpAnyH_take' (i := 1) (v := ?_) rfl (by kernel_rfl) (by kernel_rfl) (by kernel_rfl) (fun _ _ _ h => h) (Or.inl ⟨by rfl, ?_⟩) (by assumption) ?_
      rotate_left
      · (intro w' hSw; (try dsimp only at hSw); go_simp; all_goals with_reducible rfl)
      try simp only [Act.put, List.setIfInBounds_toArray, List.set_cons_zero, List.set_cons_succ]
      refine wpAnyH_take' (i := 2) (v := ?_) rfl (by kernel_rfl) (by kernel_rfl) (by kernel_rfl) (fun _ _ _ h => h) (Or.inl ⟨by rfl, ?_⟩) (by assumption) ?_
      rotate_left
      · (intro w' hSw; (try dsimp only at hSw); go_simp; all_goals with_reducible rfl)
      try simp only [Act.put, List.setIfInBounds_toArray, List.set_cons_zero, List.set_cons_succ]
      refine wpAnyH_take' (i := 3) (v := ?_) rfl (by kernel_rfl) (by kernel_rfl) (by kernel_rfl) (fun _ _ _ h => h) (Or.inl ⟨by rfl, ?_⟩) (by assumption) ?_
      rotate_left
      · (intro w' hSw; (try dsimp only at hSw); go_simp; all_goals with_reducible rfl)
      try simp only [Act.put, List.setIfInBounds_toArray, List.set_cons_zero, List.set_cons_succ]
      refine wpAnyH_take' (i := 4) (v := ?_) rfl (by kernel_rfl) (by kernel_rfl) (by kernel_rfl) (fun _ _ _ h => h) (Or.inl ⟨by rfl, ?_⟩) (by assumption) ?_
      rotate_left
      · (intro w' hSw; (try dsimp only at hSw); go_simp; all_goals with_reducible rfl)
      try simp only [Act.put, List.setIfInBounds_toArray, List.set_cons_zero, List.set_cons_succ]
      refine wpAnyH_take' (i := 5) (v := ?_) rfl (by kernel_rfl) (by kernel_rfl) (by kernel_rfl) (fun _ _ _ h => h) (Or.inl ⟨by rfl, ?_⟩) (by assumption) ?_
      rotate_left
      · (intro w' hSw; (try dsimp only at hSw); go_simp; all_goals with_reducible rfl)
      try simp only [Act.put, List.setIfInBounds_toArray, List.set_cons_zero, List.set_cons_succ]
      refine wpAnyH_ready (rs := [6]) (by kernel_rfl) (by simp) ?_
      refine allReadyH_cons' rfl (fun Kn hKn => ?_) AllReadyH.nil
      go_simp
      go_at_call 148
      refine (c_pick g _ n _ (W5.out.1.below (by go_grown)) (by omega) (by omega)).mono ?_
      rintro e w6 ⟨⟨v, rfl, v0, v1⟩, hc6, hg6⟩
      obtain ⟨i, rfl⟩ : ∃ i : Nat, v = i := ⟨v.toNat, by omega⟩
      have W6 := hid (show Cur w6 g (K + 4) ∧ w.grownBy w6 (some g) from ⟨hc6, grownBy_trans (grownBy_trans W5.out.2.1 (grown_of_below (by go_grown) _)) hg6⟩)
      have hi : i < n := by omega
      have hi2 : (i : Int) < (n : Int) := by omega
      have hcc := (hg6.block w.heap.size hzw (fun e => by have := Option.some.inj e; omega)).trans W5.out.2.2
      obtain ⟨b0, o0, e0, hb0, x0, x1, x2, x3⟩ := QAt.get HQ.out i hi
      subst e0
      have hcl0 := (grown_cell W6.out.2 ⟨b0, o0 + i * 4, none⟩ hb0 (HQG.out _ _ rfl)).trans x0
      have hb06 : b0 < w6.heap.size := by have := W6.out.2.size; omega
      clear hc6 hg6 m0 m1 v1 x0 x1 x2 x3
      obtain ⟨m0, m1⟩ := two_of hcc
      refine hKn.out _ _ m1 (fun hHeldN => ?_)
      clear hKn Kn hHeld
      have hHeld := hHeldN
      clear hHeldN
      try simp only [Act.put, List.setIfInBounds_toArray, List.set_cons_zero, List.set_cons_succ]
      refine wpAnyH_take' (i := 7) (v := ?_) rfl (by kernel_rfl) (by kernel_rfl) (by kernel_rfl) (fun _ _ _ h => h) (Or.inl ⟨by rfl, ?_⟩) (by assumption) ?_
      rotate_left
      · (intro w' hSw; (try dsimp only at hSw); go_simp; all_goals with_reducible rfl)
      try simp only [Act.put, List.setIfInBounds_toArray, List.set_cons_zero, List.set_cons_succ]
      refine wpAnyH_take' (i := 8) (v := ?_) rfl (by kernel_rfl) (by kernel_rfl) (by kernel_rfl) (fun _ _ _ h => h) (Or.inl ⟨by rfl, ?_⟩) (by assumption) ?_
      rotate_left
      · (intro w' hSw; (try dsimp only at hSw); go_simp; all_goals with_reducible rfl)
      try simp only [Act.put, List.setIfInBounds_toArray, List.set_cons_zero, List.set_cons_succ]
      refine wpAnyH_ready (rs := [9]) (by kernel_rfl) (by simp) ?_
      refine allReadyH_cons' rfl (fun Kn hKn => ?_) AllReadyH.nil
      go_simp
      refine hKn.out _ _ m1 (fun hHeldN => ?_)
      clear hKn Kn hHeld
      have hHeld := hHeldN
      clear hHeldN
      try simp only [Act.put, List.setIfInBounds_toArray, List.set_cons_zero, List.set_cons_succ]
      refine wpAnyH_take' (i := 10) (v := ?_) rfl (by kernel_rfl) (by kernel_rfl) (by kernel_rfl) (fun _ _ _ h => h) (Or.inl ⟨by rfl, ?_⟩) (by assumption) ?_
      rotate_left
      · (intro w' hSw; (try dsimp only at hSw); go_simp; all_goals with_reducible rfl)
      try simp only [Act.put, List.setIfInBounds_toArray, List.set_cons_zero, List.set_cons_succ]
      refine wpAnyH_done (by kernel_rfl) ?_ _
      refine NoPanic.normal ?_
      clear hHeld
      go_wp2
      go_ret
      exact ⟨⟨_, rfl⟩, W6.out.1, W6.out.2⟩
    · go_wp2_with fail
      refine (c_pick g _ 20 _ W5.out.1 (by omega) (by omega)).mono ?_
      rintro e w6 ⟨⟨v, rfl, -, -⟩, hc6, hg6⟩
      have W6 := hid (show Cur w6 g (K + 4) ∧ w.grownBy w6 (some g) from ⟨hc6, grownBy_trans W5.out.2.1 hg6⟩)
      clear hc6 hg6
      go_wp2
      go_ret
      exact ⟨⟨_, rfl⟩, W6.out.1, W6.out.2⟩

end Go.Proofs.Ytlnhikhpkcgegaa

/-
  The nodes of a network that are not connected with a node without a pipe: in the reference and in the program.
-/
set_option linter.unusedVariables false
set_option linter.unusedSimpArgs false
namespace Go.Proofs.Ytlnhikhpkcgegaa
open Go.RowKit

/-- The first nodes, from 1 on, at which a row is negative. -/
def neg (L : List Int) (k : Nat) : List Int := ((List.range k).filter fun v => decide (0 < v) && decide (L[v]?.getD 0 < 0)).map fun v : Nat => (v : Int)
theorem neg_yes {L : List Int} {k : Nat} (h0 : 0 < k) (h : L[k]?.getD 0 < 0) : neg L (k + 1) = neg L k ++ [(k : Int)] := by simp [neg, List.range_succ, h, h0]
theorem neg_no {L : List Int} {k : Nat} (h : ¬ (0 < k ∧ L[k]?.getD 0 < 0)) : neg L (k + 1) = neg L k := by
  have : (decide (0 < k) && decide (L[k]?.getD 0 < 0)) = false := by simpa using h
  simp [neg, List.range_succ, this]
theorem neg_len (L : List Int) (k : Nat) : (neg L k).length ≤ k := by
  unfold neg
  rw [List.length_map]
  exact Nat.le_trans (List.length_filter_le _ _) (by simp)
theorem neg_one (L : List Int) : neg L 1 = [] := by simp [neg, List.range_succ]
theorem neg_reach {M : Nat} {l : List Pip} {wo s : Int} {k : Nat} (hk : k < M) : (k : Int) + 1 ∈ reachL M l wo s ↔ ¬ (distL M l wo s)[k + 1]?.getD 0 < 0 := by
  rw [to_reached (by omega), distL_at (by omega) (by omega)]
  have e : ((k + 1 : Nat) : Int) = (k : Int) + 1 := by omega
  rw [e]
  omega

set_option maxRecDepth 100000 in
set_option maxHeartbeats 2000000 in
theorem s_l8Down (M : Nat) (s : Int) (i : Nat) (a : Option Addr) (n c : Nat) (l : List Pip) (w : World) (h : QAt w a n l) (hg : goodNet M l = true) (hc : n ≤ c) (hi : i < n) (hs : 1 ≤ s ∧ s ≤ M) :
    Calls Try.prog 149 #[.agg #[.int .i64 M, .slice a n c], .int .i64 s, .int .i64 i] w fun e w' => ∃ a' c', e = .returned (.slice a' (neg (distL M l (pp l i).1 s) (M + 1)).length c') ∧ OwnI w' w.heap.size (.slice a' (neg (distL M l (pp l i).1 s) (M + 1)).length c') (neg (distL M l (pp l i).1 s) (M + 1)) ∧ Below w.heap.size w w' := by
  have hM : M ≤ 8 := by have := (goodNet_get hg).1; omega
  have hn : n ≤ 10 := by have := (goodNet_get hg).2.1; have := h.1; omega
  have hl := h.1
  obtain ⟨D, hD⟩ : ∃ D, distL M l (pp l i).1 s = D := ⟨_, rfl⟩
  obtain ⟨R, hR⟩ : ∃ R, reachL M (l.eraseIdx i) 0 s = R := ⟨_, rfl⟩
  have HR := hid hR
  have HM := hid (show ∀ k, k < M → ((k : Int) + 1 ∈ R ↔ ¬ D[k + 1]?.getD 0 < 0) from fun k hk => by
    rw [← hR, ← hD, reach_without hg (by omega)]
    exact neg_reach hk)
  rw [hD]
  have hrl : R.length ≤ 8 := by
    rw [← hR]
    have := reachL_len (N := (M : Int)) (l := l.eraseIdx i) (wo := 0) (s := s)
    omega
  have HG2 := hid (goodNet_sub (List.eraseIdx_sublist l i) hg)
  have H := hid h
  have HS := hid hs
  clear h hg hD hR hl hs
  go_enter Try.func149, Try.ntmps149
  go_wp2_with fail
  refine (s_l2Without M i _ _ _ l _ (H.out.below (by go_grown)) (by omega) hc hi).mono ?_
  rintro e w1 ⟨a1, c1, rfl, ho1, hb1⟩
  have HB1 := hid (bstep (by go_grown) hb1 : Below w.heap.size w w1)
  have n0 : w1.cell? ⟨w.heap.size, 0, none⟩ = some (.int .i64 M) := by rw [hb1.cell (p := ⟨w.heap.size, 0, none⟩) (by simp)]; rw [cell_of_row _ _ _ _ _ (0, 0) (heap_alloc_new _ _)]; rfl
  have HO1 := hid ho1
  clear hb1 ho1
  have hz1 : w.heap.size < w1.heap.size := World.block_lt_of_cell? w1 _ n0
  go_wp2_with fail
  refine (s_l2Reached M s _ _ _ (l.eraseIdx i) _ ((OwnS.at qf_len HO1.out).below (by go_grown)) HG2.out HS.out).mono ?_
  rintro e w2 ⟨g2, c2, rfl, ho2, hb2⟩
  rw [HR.out] at ho2 ⊢
  have HB2 := hid (bstep HB1.out hb2 : Below w.heap.size w w2)
  have N2 := hid ((hb2.cell (p := ⟨w.heap.size, 0, none⟩) hz1).trans n0)
  have hlt2 := (ho2.lt g2 rfl)
  have HO2 := hid ho2
  clear n0 ho2 hb2
  have n0 := N2.out
  have hz2 : w.heap.size < w2.heap.size := World.block_lt_of_cell? w2 _ n0
  have HO := hid (show OwnI (w2.alloc (.cells #[] 3)) w2.heap.size (.slice (some ⟨w2.heap.size, 0, none⟩) (neg D 1).length 0) (neg D 1) from by
    rw [neg_one]
    exact OwnI.lit0 w2)
  go_wp2
  go_loopg [8, 9] M (fun g o i wr => ∃ (k : Nat) (a' : Option Addr) (c' : Nat), k ≤ M ∧ g = M - k ∧ i = .int .i64 ((k : Int) + 1) ∧ o = .slice a' (neg D (k + 1)).length c' ∧ Hid (OwnI wr w2.heap.size (.slice a' (neg D (k + 1)).length c') (neg D (k + 1)) ∧ IntsAt wr (some ⟨g2, 0, none⟩) R.length R ∧ Below w2.heap.size w2 wr))
  case atStart => exact ⟨0, some ⟨w2.heap.size, 0, none⟩, 0, Nat.zero_le _, rfl, rfl, by rw [neg_one]; rfl, hid ⟨HO.out, HO2.out.at.below (by go_grown), by go_grown⟩⟩
  case round =>
    obtain ⟨k, a', c', hk, rfl, rfl, rfl, hh⟩ := hrel
    have hlen := neg_len D (k + 1)
    have n1 : wr.cell? ⟨w.heap.size, 0, none⟩ = some (.int .i64 M) := (hh.out.2.2.cell (p := ⟨w.heap.size, 0, none⟩) hz2).trans n0
    by_cases hlt : k < M
    · have hkm : (k : Int) + 1 ≤ (M : Int) := by omega
      by_cases hp : D[k + 1]?.getD 0 < 0
      · have E := hid (neg_yes (k := k + 1) (by omega) hp)
        have F := hid (show decide ((k : Int) + 1 ∈ R) = false by simp; exact fun h => by have := (HM.out k hlt).1 h; omega)
        clear hp
        go_wp2_with fail
        refine (s_l1Has_is _ _ _ _ R _ hh.out.2.1 (by omega) false F.out).mono ?_
        rintro e _ ⟨rfl, rfl⟩
        go_wp2_with (at_builtin; refine wp_append_ints _ rfl _ _ rfl w2.heap.size _ (neg D (k + 1)) rfl (hh.out.1.alloc _) _ 1 1 [(k : Int) + 1] rfl (IntsAt.single _ _) ((neg D (k + 1)).length + 1) (by simp) (by omega) (by have := hh.out.2.2.size; simp; omega) ?_)
        intro a2 c2 w3 hown hgrow hblk
        have e9 : ((k + 1 : Nat) : Int) = (k : Int) + 1 := by omega
        rw [e9] at E
        have hl2 : (neg D (k + 1)).length + 1 = (neg D (k + 1 + 1)).length := by rw [E.out]; simp
        rw [hl2] at hown hblk ⊢
        have S2 := hid (show OwnI w3 w2.heap.size (.slice a2 (neg D (k + 1 + 1)).length c2) (neg D (k + 1 + 1)) ∧ IntsAt w3 (some ⟨g2, 0, none⟩) R.length R ∧ Below w2.heap.size w2 w3 from by
          have hb3 : Below w2.heap.size w2 w3 := (bstep hh.out.2.2 (by go_grown)).grown hgrow (by have := hh.out.2.2.size; simp; omega) (fun q hq => (hh.out.1.lt q hq).1)
          exact ⟨by rw [E.out] at hown ⊢; exact hown, HO2.out.at.below hb3, hb3⟩)
        clear hown hgrow hblk hl2 n1
        go_wp2
        go_roundg (M - (k + 1))
        case rel => exact ⟨k + 1, _, _, by omega, rfl, by go_num, rfl, S2⟩
        case measure => omega
      · have E := hid (neg_no (L := D) (k := k + 1) (fun h => hp h.2))
        have F := hid (show decide ((k : Int) + 1 ∈ R) = true by simp; exact (HM.out k hlt).2 (by omega))
        clear hp
        go_wp2_with fail
        refine (s_l1Has_is _ _ _ _ R _ hh.out.2.1 (by omega) true F.out).mono ?_
        rintro e _ ⟨rfl, rfl⟩
        go_wp2
        go_roundg (M - (k + 1))
        case rel => exact ⟨k + 1, a', c', by omega, rfl, by go_num, by rw [E.out], hid (by rw [E.out]; exact hh.out)⟩
        case measure => omega
    · obtain rfl : k = M := by omega
      go_wp2
      go_ret
      exact ⟨_, _, rfl, hh.out.1.mono HB2.out.size, bstep HB2.out hh.out.2.2⟩

end Go.Proofs.Ytlnhikhpkcgegaa

/-
  Trees, in plain lists: no more nodes are reached than there are pipes and one; without a pipe one of its ends is not reached; flows.
-/
set_option linter.unusedVariables false
set_option linter.unusedSimpArgs false
namespace Go.Proofs.Ytlnhikhpkcgegaa
open Go.RowKit

theorem nodup_len : ∀ (n : Nat) (A : List Nat), A.Nodup → (∀ x ∈ A, x < n) → A.length ≤ n
  | 0, A, _, h => by
    cases A with
    | nil => simp
    | cons x r => have := h x (by simp); omega
  | n + 1, A, hA, h => by
    by_cases hn : n ∈ A
    · have := nodup_len n (A.erase n) (hA.erase n) (fun x hx => by
        rw [hA.mem_erase_iff] at hx
        have := h x hx.2
        omega)
      have := List.length_erase_of_mem hn
      omega
    · have := nodup_len n A hA (fun x hx => by
        have := h x hx
        have : x ≠ n := fun e => hn (e ▸ hx)
        omega)
      omega
theorem inj_len {A : List Int} {n : Nat} (hA : A.Nodup) (g : Int → Nat) (hg : ∀ x ∈ A, g x < n) (hi : ∀ x ∈ A, ∀ y ∈ A, g x = g y → x = y) : A.length ≤ n := by
  have := nodup_len n (A.map g) (by
    unfold List.Nodup
    rw [List.pairwise_map]
    refine List.Pairwise.imp_of_mem ?_ hA
    intro x y hx hy hne e
    exact hne (hi x hx y hy e)) (fun z hz => by
      obtain ⟨x, hx, rfl⟩ := List.mem_map.1 hz
      exact hg x hx)
  simpa using this
theorem asc_nodup {l : List Int} (h : Asc l) : l.Nodup := List.Pairwise.imp (fun h => by omega) h

theorem oth_ends {p : Pip} {u v : Int} (h : oth p u = v) (hv : 0 < v) : (u = p.2.1 ∧ v = p.2.2.1) ∨ (u = p.2.2.1 ∧ v = p.2.1) := by
  unfold oth at h
  split at h
  · left; exact ⟨by assumption, h.symm⟩
  · split at h
    · right; exact ⟨by assumption, h.symm⟩
    · omega
/-- A pipe leads to a node from one that is nearer by one. -/
def BackK (l : List Pip) (wo s v : Int) (k : Nat) : Prop := k < l.length ∧ (pp l k).1 ≠ wo ∧ ∃ u, oth (pp l k) u = v ∧ 0 < v ∧ far l wo s u = far l wo s v - 1
theorem backK_inj {l : List Pip} {wo s x y : Int} {k : Nat} (hx : BackK l wo s x k) (hy : BackK l wo s y k) : x = y := by
  obtain ⟨-, -, u, h1, h2, h3⟩ := hx
  obtain ⟨-, -, v, h4, h5, h6⟩ := hy
  rcases oth_ends h1 h2 with ⟨a, b⟩ | ⟨a, b⟩ <;> rcases oth_ends h4 h5 with ⟨c, d⟩ | ⟨c, d⟩
  · omega
  · rw [a, b] at h3; rw [c, d] at h6; omega
  · rw [a, b] at h3; rw [c, d] at h6; omega
  · omega
theorem backK_ex {N : Int} {l : List Pip} {wo s v : Int} (hg : goodNet N l = true) (h1 : 1 ≤ v) (h2 : v ≤ N) (h : 0 < far l wo s v) : ∃ k, BackK l wo s v k := by
  obtain ⟨u, ⟨k, hk, hne, ho, hv⟩, hu⟩ := (far_is (wo := wo) (s := s) hg).back v h1 h2 h
  exact ⟨k, hk, hne, u, ho, hv, hu⟩
theorem reach_count {N : Int} {l : List Pip} {s : Int} (hg : goodNet N l = true) : (reachL N l 0 s).length ≤ l.length + 1 := by
  classical
  refine inj_len (asc_nodup (asc_nonneg _ _)) (fun v => if h : ∃ k, BackK l 0 s v k then Classical.choose h else l.length) ?_ ?_
  · intro x hx
    split
    · rename_i h
      have := (Classical.choose_spec h).1
      omega
    · omega
  · intro x hx y hy he
    obtain ⟨⟨x1, x2⟩, x3⟩ := mem_reachL.1 hx
    obtain ⟨⟨y1, y2⟩, y3⟩ := mem_reachL.1 hy
    have only := (far_is (wo := 0) (s := s) hg).only
    split at he <;> split at he
    · rename_i h h'
      have a := Classical.choose_spec h
      have b := Classical.choose_spec h'
      rw [← he] at b
      exact backK_inj a b
    · rename_i h h'
      have := (Classical.choose_spec h).1
      omega
    · rename_i h h'
      have := (Classical.choose_spec h').1
      omega
    · rename_i h h'
      have ex : x = s := only x x1 x2 (by
        apply Classical.byContradiction
        intro hn
        exact h (backK_ex hg x1 x2 (by omega)))
      have ey : y = s := only y y1 y2 (by
        apply Classical.byContradiction
        intro hn
        exact h' (backK_ex hg y1 y2 (by omega)))
      omega
theorem treeB_iff {N : Int} {l : List Pip} (hg : goodNet N l = true) : treeB N l = true ↔ (l.length : Int) = N - 1 ∧ ∀ u v : Int, 1 ≤ u → u ≤ N → 1 ≤ v → v ≤ N → Conn l u v := by
  have hN := (goodNet_get hg).1
  unfold treeB
  simp only [Bool.and_eq_true, decide_eq_true_eq]
  rw [reachL_all (by omega)]
  constructor
  · rintro ⟨h1, h2⟩
    exact ⟨h1, fun u v u1 u2 v1 v2 => (Conn.symm hg (h2 u u1 u2)).trans (h2 v v1 v2)⟩
  · rintro ⟨h1, h2⟩
    exact ⟨h1, fun v v1 v2 => h2 1 v (by omega) (by omega) v1 v2⟩
/-- Where all are connected, and no way is cut by a pipe left out, all are connected without it. -/
theorem all_without {N : Int} {l : List Pip} {s : Int} {i : Nat} (hg : goodNet N l = true) (hi : i < l.length) (hs : 1 ≤ s ∧ s ≤ N) (hc : ∀ v : Int, 1 ≤ v → v ≤ N → Conn l s v)
    (he : 0 ≤ far l (pp l i).1 s (pp l i).2.1 ↔ 0 ≤ far l (pp l i).1 s (pp l i).2.2.1) (v : Int) (h1 : 1 ≤ v) (h2 : v ≤ N) : 0 ≤ far l (pp l i).1 s v := by
  have hd := far_is (wo := (pp l i).1) (s := s) hg
  refine (far_is (wo := 0) (s := s) hg).reach hg (R := fun v => 0 ≤ far l (pp l i).1 s v) (by show 0 ≤ far l (pp l i).1 s s; rw [far_self hg]; omega) ?_ (far l 0 s v).toNat v h1 h2 (by have : 0 ≤ far l 0 s v := hc v h1 h2; omega)
  rintro u x ⟨k, hk, -, ho, hx⟩ hu
  by_cases e : (pp l k).1 = (pp l i).1
  · have hki : k = i := by
      apply Classical.byContradiction
      intro hn
      by_cases h : k < i
      · have := ids_rise hg i k hi h; omega
      · have := ids_rise hg k i hk (by omega); omega
    subst hki
    rcases oth_ends ho hx with ⟨a, b⟩ | ⟨a, b⟩
    · rw [a] at hu; rw [b]; exact he.1 hu
    · rw [a] at hu; rw [b]; exact he.2 hu
  · exact (hd.step u x ⟨k, hk, e, ho, hx⟩ hu).1
/-- In a tree, without a pipe, one of its ends is reached, the other one is not. -/
theorem tree_bridge {N : Int} {l : List Pip} {s : Int} {i : Nat} (hg : goodNet N l = true) (ht : treeB N l = true) (hs : 1 ≤ s ∧ s ≤ N) (hi : i < l.length) : 0 ≤ far l (pp l i).1 s (pp l i).2.1 ↔ ¬ 0 ≤ far l (pp l i).1 s (pp l i).2.2.1 := by
  obtain ⟨h1, h2⟩ := (treeB_iff hg).1 ht
  have key : ¬ (0 ≤ far l (pp l i).1 s (pp l i).2.1 ↔ 0 ≤ far l (pp l i).1 s (pp l i).2.2.1) := by
    intro he
    have hall := all_without hg hi hs (fun v v1 v2 => h2 s v hs.1 hs.2 v1 v2) he
    have hg' := goodNet_sub (List.eraseIdx_sublist l i) hg
    have hN := (goodNet_get hg).1
    have := (reachL_all (l := l.eraseIdx i) (s := s) (N := N) (by omega)).2 (fun v v1 v2 => by
      unfold Conn
      rw [far_without hg hi]
      exact hall v v1 v2)
    have hcnt := reach_count (s := s) hg'
    rw [List.length_eraseIdx_of_lt hi] at hcnt
    omega
  constructor
  · intro a b
    exact key ⟨fun _ => b, fun _ => a⟩
  · intro a
    apply Classical.byContradiction
    intro b
    exact key ⟨fun h => absurd h b, fun h => absurd h a⟩

/-- The demands of the first nodes that are not reached. -/
def dsum (D ds : List Int) : Nat → Int
  | 0 => 0
  | k + 1 => if D[k + 1]?.getD 0 < 0 then dsum D ds k + ds[k]?.getD 0 else dsum D ds k
theorem dsum_yes {D ds : List Int} {k : Nat} (h : D[k + 1]?.getD 0 < 0) : dsum D ds (k + 1) = dsum D ds k + ds[k]?.getD 0 := by simp [dsum, h]
theorem dsum_no {D ds : List Int} {k : Nat} (h : ¬ D[k + 1]?.getD 0 < 0) : dsum D ds (k + 1) = dsum D ds k := by simp [dsum, h]
theorem dsum_fit {D ds : List Int} (h : ∀ x ∈ ds, 0 ≤ x ∧ x ≤ 1000) : ∀ k, k ≤ ds.length → 0 ≤ dsum D ds k ∧ dsum D ds k ≤ 1000 * (k : Int)
  | 0, _ => by simp [dsum]
  | k + 1, hk => by
    have ih := dsum_fit (D := D) h k (by omega)
    have hx := h _ (getD_mem ds k (by omega))
    by_cases hp : D[k + 1]?.getD 0 < 0
    · rw [dsum_yes hp]; omega
    · rw [dsum_no hp]; omega
/-- The demands of nodes. -/
def nsum (ds L : List Int) (k : Nat) : Int := ((L.take k).map fun v => ds[v.toNat - 1]?.getD 0).sum
theorem nsum_succ {ds L : List Int} {k : Nat} (h : k < L.length) : nsum ds L (k + 1) = nsum ds L k + ds[(L[k]?.getD 0).toNat - 1]?.getD 0 := by
  unfold nsum
  rw [take_succ' L k h]
  simp
theorem neg_dsum (D ds : List Int) : ∀ k, ((neg D (k + 1)).map fun v => ds[v.toNat - 1]?.getD 0).sum = dsum D ds k
  | 0 => by simp [neg_one, dsum]
  | k + 1 => by
    have ih := neg_dsum D ds k
    by_cases h : D[k + 1]?.getD 0 < 0
    · rw [neg_yes (k := k + 1) (by omega) h, List.map_append, List.sum_append, ih, dsum_yes h]
      simp
    · rw [neg_no (k := k + 1) (fun e => h e.2), ih, dsum_no h]
theorem nsum_all (D ds : List Int) (M : Nat) : nsum ds (neg D (M + 1)) (neg D (M + 1)).length = dsum D ds M := by
  unfold nsum
  rw [List.take_of_length_le (Nat.le_refl _), neg_dsum]
theorem mem_neg {D : List Int} {k : Nat} {x : Int} : x ∈ neg D k ↔ ∃ v : Nat, v < k ∧ x = v ∧ 0 < v ∧ D[v]?.getD 0 < 0 := by
  unfold neg
  simp only [List.mem_map, List.mem_filter, List.mem_range, Bool.and_eq_true, decide_eq_true_eq]
  constructor
  · rintro ⟨v, ⟨h1, h2, h3⟩, rfl⟩; exact ⟨v, h1, rfl, h2, h3⟩
  · rintro ⟨v, h1, rfl, h2, h3⟩; exact ⟨v, ⟨h1, h2, h3⟩, rfl⟩
theorem nsum_fit {ds L : List Int} (h : ∀ x ∈ ds, 0 ≤ x ∧ x ≤ 1000) : ∀ k, k ≤ L.length → (0 ≤ nsum ds L k ∧ nsum ds L k ≤ 1000 * (k : Int))
  | 0, _ => by simp [nsum]
  | k + 1, hk => by
    have ih := nsum_fit (ds := ds) (L := L) h k (by omega)
    rw [nsum_succ (by omega)]
    by_cases hl : (L[k]?.getD 0).toNat - 1 < ds.length
    · have hx := h _ (getD_mem ds _ hl)
      omega
    · rw [List.getElem?_eq_none (by omega)]
      simp
      omega

/-- The flow through a pipe of a tree. -/
noncomputable def tflow (M : Nat) (l : List Pip) (s : Int) (ds : List Int) (i : Nat) : Int :=
  if (distL M l (pp l i).1 s)[(pp l i).2.2.1.toNat]?.getD 0 < 0 then dsum (distL M l (pp l i).1 s) ds M else -(dsum (distL M l (pp l i).1 s) ds M)
noncomputable def tflows (M : Nat) (l : List Pip) (s : Int) (ds : List Int) (k : Nat) : List Int := (List.range k).map (tflow M l s ds)
theorem tflows_succ (M : Nat) (l : List Pip) (s : Int) (ds : List Int) (k : Nat) : tflows M l s ds (k + 1) = tflows M l s ds k ++ [tflow M l s ds k] := by simp [tflows, List.range_succ]
theorem tflows_len (M : Nat) (l : List Pip) (s : Int) (ds : List Int) (k : Nat) : (tflows M l s ds k).length = k := by simp [tflows]
/-- In a tree the end from which a pipe leads is not reached just where the other one is. -/
theorem tree_from {M : Nat} {l : List Pip} {s : Int} {i : Nat} (hg : goodNet M l = true) (ht : treeB M l = true) (hs : 1 ≤ s ∧ s ≤ M) (hi : i < l.length) : (pp l i).2.1 ∈ neg (distL M l (pp l i).1 s) (M + 1) ↔ ¬ (distL M l (pp l i).1 s)[(pp l i).2.2.1.toNat]?.getD 0 < 0 := by
  obtain ⟨-, p1, p2, -, -⟩ := goodNet_pipe hg hi
  have hb := tree_bridge hg ht hs hi
  rw [distL_at (by omega) (by omega), show (((pp l i).2.2.1.toNat : Nat) : Int) = (pp l i).2.2.1 by omega, mem_neg]
  constructor
  · rintro ⟨v, h1, h2, h3, h4⟩
    rw [distL_at (by omega) (by omega), ← h2] at h4
    apply Classical.byContradiction
    intro h5
    have h6 : far l (pp l i).1 s (pp l i).2.2.1 < 0 := by omega
    have := hb.2 (by omega)
    omega
  · intro h
    refine ⟨(pp l i).2.1.toNat, by omega, by omega, by omega, ?_⟩
    rw [distL_at (by omega) (by omega), show (((pp l i).2.1.toNat : Nat) : Int) = (pp l i).2.1 by omega]
    apply Classical.byContradiction
    intro h5
    exact hb.1 (by omega) (by omega)

end Go.Proofs.Ytlnhikhpkcgegaa

/-
  What slices.IndexFunc and slices.ContainsFunc do over a test that only reads.
-/
set_option linter.unusedVariables false
namespace Go.Proofs.Ytlnhikhpkcgegaa
open Go.RowKit

def enters (F : Nat) : Prop := ∀ (args : Array Value) (w : World), (callFunc F args).run Try.prog w = .ok (.enter F args) w

/-- The first index at which a test says yes, -1 if there is none. -/
def indexFn (p : Int → Bool) (l : List Int) : Int := match l.findIdx? p with | some i => (i : Int) | none => -1

theorem indexFn_hit (p : Int → Bool) (l : List Int) (k : Nat) (hk : k < l.length) (hp : p (l[k]?.getD 0) = true) (hm : ∀ j, j < k → p (l[j]?.getD 0) = false) : indexFn p l = k := by
  unfold indexFn
  have : l.findIdx? p = some k := by
    rw [List.findIdx?_eq_some_iff_getElem]
    refine ⟨hk, by rw [List.getElem?_eq_getElem hk] at hp; exact hp, fun j hj => ?_⟩
    have := hm j hj
    rw [List.getElem?_eq_getElem (by omega)] at this
    simpa using this
  rw [this]

theorem indexFn_miss (p : Int → Bool) (l : List Int) (hm : ∀ j, j < l.length → p (l[j]?.getD 0) = false) : indexFn p l = -1 := by
  unfold indexFn
  have : l.findIdx? p = none := by
    rw [List.findIdx?_eq_none_iff]
    intro x hx
    obtain ⟨j, hj, rfl⟩ := List.mem_iff_getElem.1 hx
    have := hm j hj
    rw [List.getElem?_eq_getElem hj] at this
    exact this
  rw [this]

set_option maxHeartbeats 400000 in
theorem f_IndexFunc (F : Nat) (cs : Array Value) (p : Int → Bool) (hF : enters F) (a : Option Addr) (n c : Nat) (l : List Int) (w : World) (h : IntsAt w a n l) (hn : n ≤ 4194304)
    (H : ∀ x w', x ∈ l → Below w.heap.size w w' → Calls Try.prog F (#[.int .i64 x] ++ cs) w' fun e w'' => e = .returned (.bool (p x)) ∧ Below w'.heap.size w' w'') :
    Calls Try.prog 131 #[.slice a n c, .func (.func F) #[] cs] w fun e w' => e = .returned (.int .i64 (indexFn p l)) ∧ Below w.heap.size w w' := by
  unfold enters at hF
  have HC := hid H
  have HI := hid h
  clear h H
  go_enter Try.func131, Try.ntmps131
  go_wp2
  go_loopw [5, 8] (fun j i wr => ∃ k : Nat, k ≤ n ∧ i = .int .i64 k ∧ Hid (Below w.heap.size w wr ∧ ∀ j, j < k → p (l[j]?.getD 0) = false)) (fun _ i _ => n - (intOf i).toNat)
  case atStart => exact ⟨0, Nat.zero_le _, rfl, Below.refl _ _, fun j hj => absurd hj (by omega)⟩
  case round =>
    obtain ⟨k, hk, rfl, hh⟩ := hrel
    by_cases hlt : k < n
    · obtain ⟨b, off, rfl, hbw, hcell⟩ := (HI.out.below hh.out.1).2 k hlt
      have hm : l[k]?.getD 0 ∈ l := getD_mem l k (by have := HI.out.1; omega)
      have hfun := hid (HC.out _ _ hm hh.out.1)
      clear hm
      cases hp : p (l[k]?.getD 0)
      · go_wp2_with fail
        refine hfun.out.mono ?_
        rintro e w' ⟨rfl, hb⟩
        rw [hp]
        have HP := hid hp
        have HB := hid hb
        clear hp hb
        go_wp2
        go_roundw
        case rel =>
          refine ⟨k + 1, by omega, by go_num, bstep hh.out.1 HB.out, fun j hj => ?_⟩
          by_cases e : j = k
          · subst e; exact HP.out
          · exact hh.out.2 j (by omega)
        case measure => simp [intOf]; omega
      · go_wp2_with fail
        refine hfun.out.mono ?_
        rintro e w' ⟨rfl, hb⟩
        rw [hp]
        have HP := hid hp
        have HB := hid hb
        clear hp hb
        go_wp2
        go_ret
        refine ⟨ret_int ?_, bstep hh.out.1 HB.out⟩
        rw [indexFn_hit p l k (by have := HI.out.1; omega) HP.out hh.out.2]
    · go_wp2
      go_ret
      refine ⟨ret_int ?_, hh.out.1⟩
      rw [indexFn_miss p l (fun j hj => hh.out.2 j (by have := HI.out.1; omega))]

theorem indexFn_any (p : Int → Bool) (l : List Int) : decide (0 ≤ indexFn p l) = l.any p := by
  unfold indexFn
  cases h : l.findIdx? p with
  | none => 
    rw [List.findIdx?_eq_none_iff] at h
    symm; simp; intro x hx; simpa using h x hx
  | some i =>
    have hl : i < l.length := by
      obtain ⟨h1, _⟩ := List.findIdx?_eq_some_iff_getElem.1 h
      exact h1
    have : l.any p = true := by
      rw [List.any_eq_true]
      obtain ⟨h1, h2, _⟩ := List.findIdx?_eq_some_iff_getElem.1 h
      exact ⟨l[i], List.getElem_mem h1, h2⟩
    rw [this]; simp

theorem f_ContainsFunc (F : Nat) (cs : Array Value) (p : Int → Bool) (hF : enters F) (a : Option Addr) (n c : Nat) (l : List Int) (w : World) (h : IntsAt w a n l) (hn : n ≤ 4194304)
    (H : ∀ x w', x ∈ l → Below w.heap.size w w' → Calls Try.prog F (#[.int .i64 x] ++ cs) w' fun e w'' => e = .returned (.bool (p x)) ∧ Below w'.heap.size w' w'') :
    Calls Try.prog 119 #[.slice a n c, .func (.func F) #[] cs] w fun e w' => e = .returned (.bool (l.any p)) ∧ Below w.heap.size w w' := by
  have HF := hid (f_IndexFunc F cs p hF a n c l w h hn H)
  clear hF h H
  have HP := hid (indexFn_any p l)
  go_enter Try.func119, Try.ntmps119
  go_wp2_with fail
  refine HF.out.mono ?_
  rintro e w' ⟨rfl, hb⟩
  go_wp2
  go_ret
  exact ⟨ret_bool HP.out, hb⟩

end Go.Proofs.Ytlnhikhpkcgegaa

