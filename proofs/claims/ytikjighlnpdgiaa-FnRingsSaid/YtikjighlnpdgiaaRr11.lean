/-
  Texts of this claim, joined: DrawR, Down, TreeA, Funcs, NetD, NetE, NetL.
-/
import Derived.Test.YtikjighlnpdgiaaRr1
import Derived.Test.YtikjighlnpdgiaaRr3
import Derived.Test.YtikjighlnpdgiaaRr4
import Derived.Test.YtikjighlnpdgiaaRr5
import Derived.Test.YtikjighlnpdgiaaRr6
import Derived.Test.YtikjighlnpdgiaaRr7
import Derived.Test.YtikjighlnpdgiaaRr10
/-
  The draws of rings, of nodes and small demands.
-/
set_option linter.unusedVariables false
set_option linter.unusedSimpArgs false
namespace Go.Proofs.Ytikjighlnpdgiaa
open Go.RowKit


set_option maxRecDepth 100000 in
set_option maxHeartbeats 8000000 in
theorem s_DrawRingFlows (a0 : Option Addr) (n0 c0 : Nat) (w : World) (h : BytesAt w a0 n0) :
    Calls Try.prog 16 #[.slice a0 n0 c0] w fun e w' => ∃ (N : Int) (a : Option Addr) (m c : Nat) (L : List Pip) (v1 : Int) (a2 : Option Addr) (m2 c2 : Nat) (l2 : List Int), e = .returned (.tuple #[.agg #[.int .i64 N, .slice a m c], .int .i64 v1, .slice a2 m2 c2]) ∧ OwnQ w' w.heap.size (.slice a m c) L ∧ OwnI w' w.heap.size (.slice a2 m2 c2) l2 ∧ ((0 ≤ N ∧ N ≤ 9) ∧ m ≤ 11 ∧ m2 ≤ 1001) ∧ Below w.heap.size w w' := by
  have H := hid h
  clear h
  have T0 := hid (heap_alloc_new w (.cells #[.int .i64 0, .slice none 0 0] 31))
  go_enter Try.func16, Try.ntmps16
  go_upto_region 2 with fail
  have B0 := hid (by go_grown : Below w.heap.size w ((w.alloc (.cells #[.int .i64 0, .slice none 0 0] 31)).alloc (.cells #[.slice a0 n0 c0, .int .i64 0, .int .u64 0] 78)))
  have C0 := hid (Cur.start (c := c0) (g := w.heap.size + 1) (H.out.below (by go_grown : Below w.heap.size w (w.alloc (.cells #[.int .i64 0, .slice none 0 0] 31)))) (by simp))
  have R0 := hid (mid_new w (.cells #[.int .i64 0, .slice none 0 0] 31) (.cells #[.slice a0 n0 c0, .int .i64 0, .int .u64 0] 78) w.heap.size rfl)
  have hz0 : w.heap.size + 1 < ((w.alloc (.cells #[.int .i64 0, .slice none 0 0] 31)).alloc (.cells #[.slice a0 n0 c0, .int .i64 0, .int .u64 0] 78)).heap.size := by simp
  obtain ⟨g, hgg⟩ : ∃ g, w.heap.size + 1 = g := ⟨_, rfl⟩
  rw [hgg] at C0 hz0 ⊢
  generalize (w.alloc (.cells #[.int .i64 0, .slice none 0 0] 31)).alloc (.cells #[.slice a0 n0 c0, .int .i64 0, .int .u64 0] 78) = w0 at *
  have hwg : w.heap.size < g := by omega
  clear hgg
  go_wp2_with fail
  refine (c_ring g 0 _ C0.out (by omega)).mono ?_
  rintro e w1 ⟨⟨N, a, m, c, rfl, ⟨hN0, hN1, hm⟩, L, ho⟩, hc1, hg1⟩
  have hz1 := hg1.size
  have S2 := hid (show DB w (w1.alloc (.cells #[.int .i64 N, .slice a m c] 31)) g w1.heap.size (0 + 900) N a m c L from
    ⟨hc1.below (by go_grown), bstep (Below.grown B0.out hg1 B0.out.size (fun q e => by have := Option.some.inj e; omega)) (by go_grown), heap_alloc_new _ _, (Below.heap_alloc _ _ _ (by omega)).trans ((hg1.block w.heap.size (by omega) (fun e => by have := Option.some.inj e; omega)).trans R0.out), OwnS.mono (OwnS.below ho (by go_grown)) (by omega), fun k e => by have := OwnS.lt ho k e; omega, by omega⟩)
  clear hc1 hg1 ho
  go_upto_region 3 with fail
  obtain ⟨b, hb⟩ : ∃ b, w1.heap.size = b := ⟨_, rfl⟩
  rw [hb] at S2 ⊢
  generalize w1.alloc (.cells #[.int .i64 N, .slice a m c] 31) = w2 at *
  clear hb hz1
  obtain ⟨y0, y1⟩ := two_of S2.out.box
  have hlt2 := S2.out.lt
  refine wp_region_noPanic ?_
  refine wp_region_held_drew (S := (fun w' => w'.cell? ⟨b, 0, none⟩ = some (.int .i64 N) ∧ w'.cell? ⟨b, 1, none⟩ = some (.slice a m c))) (by kernel_rfl) (by exact ⟨y0, y1⟩) (fun hHeld => ?_)
  refine wpAnyH_take' (i := 0) (v := ?_) rfl (by kernel_rfl) (by kernel_rfl) (by kernel_rfl) (fun _ _ _ h => h) (Or.inl ⟨by rfl, ?_⟩) (by assumption) ?_
  rotate_left
  · (intro w' hSw; (try dsimp only at hSw); go_simp; all_goals with_reducible rfl)
  try simp only [Act.put, List.setIfInBounds_toArray, List.set_cons_zero, List.set_cons_succ]
  refine wpAnyH_take' (i := 1) (v := ?_) rfl (by kernel_rfl) (by kernel_rfl) (by kernel_rfl) (fun _ _ _ h => h) (Or.inl ⟨by rfl, ?_⟩) (by assumption) ?_
  rotate_left
  · (intro w' hSw; (try dsimp only at hSw); go_simp; all_goals with_reducible rfl)
  try simp only [Act.put, List.setIfInBounds_toArray, List.set_cons_zero, List.set_cons_succ]
  refine wpAnyH_take' (i := 2) (v := ?_) rfl (by kernel_rfl) (by kernel_rfl) (by kernel_rfl) (fun _ _ _ h => h) (Or.inl ⟨by rfl, ?_⟩) (by assumption) ?_
  rotate_left
  · (intro w' hSw; (try dsimp only at hSw); go_simp; all_goals with_reducible rfl)
  try simp only [Act.put, List.setIfInBounds_toArray, List.set_cons_zero, List.set_cons_succ]
  refine wpAnyH_take' (i := 4) (v := ?_) rfl (by kernel_rfl) (by kernel_rfl) (by kernel_rfl) (fun _ _ _ h => h) (Or.inl ⟨by rfl, ?_⟩) (by assumption) ?_
  rotate_left
  · (intro w' hSw; (try dsimp only at hSw); go_simp; all_goals with_reducible rfl)
  try simp only [Act.put, List.setIfInBounds_toArray, List.set_cons_zero, List.set_cons_succ]
  refine wpAnyH_take' (i := 5) (v := ?_) rfl (by kernel_rfl) (by kernel_rfl) (by kernel_rfl) (fun _ _ _ h => h) (Or.inl ⟨by rfl, ?_⟩) (by assumption) ?_
  rotate_left
  · (intro w' hSw; (try dsimp only at hSw); go_simp; all_goals with_reducible rfl)
  try simp only [Act.put, List.setIfInBounds_toArray, List.set_cons_zero, List.set_cons_succ]
  refine wpAnyH_ready (rs := [3]) (by kernel_rfl) (by simp) ?_
  refine allReadyH_cons' rfl (fun Kn hKn => ?_) AllReadyH.nil
  go_simp
  go_at_call 55
  refine (c_nodeOf g _ N _ _ _ _ (S2.out.below (by go_grown)).cur (by omega) (by omega)).mono ?_
  rintro e w3 ⟨⟨v1, rfl⟩, hc, hg⟩
  have S3 := hid ((S2.out.below (by go_grown)).step hc hg)
  clear hc hg y0 y1 S2
  obtain ⟨y0, y1⟩ := two_of S3.out.box
  have hlt3 := S3.out.lt
  refine hKn.out _ _ ⟨y0, y1⟩ (fun hHeldN => ?_)
  clear hKn Kn hHeld
  have hHeld := hHeldN
  clear hHeldN
  try simp only [Act.put, List.setIfInBounds_toArray, List.set_cons_zero, List.set_cons_succ]
  refine wpAnyH_ready (rs := [6]) (by kernel_rfl) (by simp) ?_
  refine allReadyH_cons' rfl (fun Kn hKn => ?_) AllReadyH.nil
  go_simp
  go_at_call 56
  refine (c_small g _ N _ _ _ _ (S3.out.below (by go_grown)).cur (by omega) (by omega)).mono ?_
  rintro e w4 ⟨⟨a2, m2, c2, l2, rfl, ho, hm2⟩, hc, hg⟩
  have S4 := hid ((S3.out.below (by go_grown)).step hc hg)
  have O2_4 := hid (LB.new (w := w) (g := g) ho (by have := S3.out.cur.lt; simp; omega) (by have := S3.out.lt; simp; omega))
  clear ho
  clear hc hg y0 y1 S3
  obtain ⟨y0, y1⟩ := two_of S4.out.box
  have hlt4 := S4.out.lt
  refine hKn.out _ _ ⟨y0, y1⟩ (fun hHeldN => ?_)
  clear hKn Kn hHeld
  have hHeld := hHeldN
  clear hHeldN
  try simp only [Act.put, List.setIfInBounds_toArray, List.set_cons_zero, List.set_cons_succ]
  have HD := hid (S4.out.put (u := .int .i64 N) (v := .slice a m c))
  have P2 := hid (O2_4.out.put (u := .int .i64 N) (v := .slice a m c))
  obtain ⟨z0, z1⟩ := two_of S4.out.res
  have fz := fun j => frozen_of_row w4 w.heap.size j _ _ S4.out.res
  have hlo := S4.out.lo
  have hltz := S4.out.lt
  refine wpAnyH_ready (rs := [7]) (by kernel_rfl) (by simp) ?_
  refine allReadyH_cons' rfl (fun Kn hKn => ?_) AllReadyH.nil
  go_simp
  refine hKn.out _ _ (two_of HD.out.box) (fun hHeldN => ?_)
  clear hKn Kn hHeld
  have hHeld := hHeldN
  clear hHeldN
  try simp only [Act.put, List.setIfInBounds_toArray, List.set_cons_zero, List.set_cons_succ]
  refine wpAnyH_take' (i := 8) (v := ?_) rfl (by kernel_rfl) (by kernel_rfl) (by kernel_rfl) (fun _ _ _ h => h) (Or.inl ⟨by rfl, ?_⟩) (by assumption) ?_
  rotate_left
  · (intro w' hSw; (try dsimp only at hSw); go_simp; all_goals with_reducible rfl)
  try simp only [Act.put, List.setIfInBounds_toArray, List.set_cons_zero, List.set_cons_succ]
  refine wpAnyH_take' (i := 9) (v := ?_) rfl (by kernel_rfl) (by kernel_rfl) (by kernel_rfl) (fun _ _ _ h => h) (Or.inl ⟨by rfl, ?_⟩) (by assumption) ?_
  rotate_left
  · (intro w' hSw; (try dsimp only at hSw); go_simp; all_goals with_reducible rfl)
  try simp only [Act.put, List.setIfInBounds_toArray, List.set_cons_zero, List.set_cons_succ]
  refine wpAnyH_done (by kernel_rfl) ?_ _
  refine NoPanic.normal ?_
  clear hHeld
  go_wp2
  refine bodyPost_ret (v := .tuple #[.agg #[.int .i64 N, .slice a m c], .int .i64 v1, .slice a2 m2 c2]) (by simp [results, Try.results16, go_sem, *]) rfl ⟨N, a, m, c, L, v1, a2, m2, c2, l2, rfl, OwnS.mono HD.out.own (by omega), P2.out.mono (by omega), ⟨⟨by omega, by omega⟩, by omega, by omega⟩, HD.out.bel⟩

set_option maxRecDepth 100000 in
set_option maxHeartbeats 8000000 in
theorem s_DrawIsRing (a0 : Option Addr) (n0 c0 : Nat) (w : World) (h : BytesAt w a0 n0) :
    Calls Try.prog 65 #[.slice a0 n0 c0] w fun e w' => ∃ (N : Int) (a : Option Addr) (m c : Nat) (L : List Pip), e = .returned (.agg #[.int .i64 N, .slice a m c]) ∧ OwnQ w' w.heap.size (.slice a m c) L ∧ ((0 ≤ N ∧ N ≤ 9) ∧ m ≤ 11) ∧ Below w.heap.size w w' := by
  have H := hid h
  clear h
  have T0 := hid (heap_alloc_new w (.cells #[.int .i64 0, .slice none 0 0] 31))
  go_enter Try.func65, Try.ntmps65
  go_upto_region 2 with fail
  have B0 := hid (by go_grown : Below w.heap.size w ((w.alloc (.cells #[.int .i64 0, .slice none 0 0] 31)).alloc (.cells #[.slice a0 n0 c0, .int .i64 0, .int .u64 0] 78)))
  have C0 := hid (Cur.start (c := c0) (g := w.heap.size + 1) (H.out.below (by go_grown : Below w.heap.size w (w.alloc (.cells #[.int .i64 0, .slice none 0 0] 31)))) (by simp))
  have R0 := hid (mid_new w (.cells #[.int .i64 0, .slice none 0 0] 31) (.cells #[.slice a0 n0 c0, .int .i64 0, .int .u64 0] 78) w.heap.size rfl)
  have hz0 : w.heap.size + 1 < ((w.alloc (.cells #[.int .i64 0, .slice none 0 0] 31)).alloc (.cells #[.slice a0 n0 c0, .int .i64 0, .int .u64 0] 78)).heap.size := by simp
  obtain ⟨g, hgg⟩ : ∃ g, w.heap.size + 1 = g := ⟨_, rfl⟩
  rw [hgg] at C0 hz0 ⊢
  generalize (w.alloc (.cells #[.int .i64 0, .slice none 0 0] 31)).alloc (.cells #[.slice a0 n0 c0, .int .i64 0, .int .u64 0] 78) = w0 at *
  have hwg : w.heap.size < g := by omega
  clear hgg
  go_wp2_with fail
  refine (c_ring g 0 _ C0.out (by omega)).mono ?_
  rintro e w1 ⟨⟨N, a, m, c, rfl, ⟨hN0, hN1, hm⟩, L, ho⟩, hc1, hg1⟩
  have hz1 := hg1.size
  have R1 := hid ((hg1.block w.heap.size (by omega) (fun e => by have := Option.some.inj e; omega)).trans R0.out)
  have B1 := hid (Below.grown B0.out hg1 B0.out.size (fun q e => by have := Option.some.inj e; omega))
  have Hho := hid ho
  clear hc1 hg1 ho
  obtain ⟨z0, z1⟩ := two_of R1.out
  have fz := fun j => frozen_of_row w1 w.heap.size j _ _ R1.out
  have hzw : w.heap.size < w1.heap.size := by omega
  go_wp2
  refine bodyPost_ret (v := .agg #[.int .i64 N, .slice a m c]) (by simp [results, Try.results65, go_sem, *]) rfl ⟨N, a, m, c, L, rfl, (OwnS.far (OwnS.far Hho.out (by show w.heap.size < _; omega)) (by show w.heap.size < _; omega)).mono (by omega), ⟨⟨by omega, by omega⟩, by omega⟩, ?_⟩
  exact (B1.out.setCell (Nat.le_refl _) _).setCell (Nat.le_refl _) _

set_option maxRecDepth 100000 in
set_option maxHeartbeats 8000000 in
theorem s_DrawLoopOf (a0 : Option Addr) (n0 c0 : Nat) (w : World) (h : BytesAt w a0 n0) :
    Calls Try.prog 21 #[.slice a0 n0 c0] w fun e w' => ∃ (N : Int) (a : Option Addr) (m c : Nat) (L : List Pip), e = .returned (.agg #[.int .i64 N, .slice a m c]) ∧ OwnQ w' w.heap.size (.slice a m c) L ∧ ((0 ≤ N ∧ N ≤ 9) ∧ m ≤ 11) ∧ Below w.heap.size w w' := by
  have H := hid h
  clear h
  have T0 := hid (heap_alloc_new w (.cells #[.int .i64 0, .slice none 0 0] 31))
  go_enter Try.func21, Try.ntmps21
  have B0 := hid (by go_grown : Below w.heap.size w (w.alloc (.cells #[.int .i64 0, .slice none 0 0] 31)))
  have hz0 : w.heap.size < (w.alloc (.cells #[.int .i64 0, .slice none 0 0] 31)).heap.size := by simp
  go_upto_region 1 with fail
  generalize w.alloc (.cells #[.int .i64 0, .slice none 0 0] 31) = w0 at *
  go_wp2_with fail
  refine (s_DrawIsRing _ _ _ _ (H.out.below B0.out)).mono ?_
  rintro e w1 ⟨N, a, m, c, L, rfl, ho, ⟨⟨hN0, hN1⟩, hm⟩, hb⟩
  have R1 := hid ((hb.block w.heap.size hz0).trans T0.out)
  have B1 := hid (bstep B0.out hb)
  have hz1 := hb.size
  have Hho := hid ho
  clear hb T0 ho
  obtain ⟨z0, z1⟩ := two_of R1.out
  have fz := fun j => frozen_of_row w1 w.heap.size j _ _ R1.out
  have hzw : w.heap.size < w1.heap.size := by omega
  go_wp2
  refine bodyPost_ret (v := .agg #[.int .i64 N, .slice a m c]) (by simp [results, Try.results21, go_sem, *]) rfl ⟨N, a, m, c, L, rfl, (OwnS.far (OwnS.far Hho.out (by show w.heap.size < _; omega)) (by show w.heap.size < _; omega)).mono (by omega), ⟨⟨by omega, by omega⟩, by omega⟩, ?_⟩
  exact (B1.out.setCell (Nat.le_refl _) _).setCell (Nat.le_refl _) _

end Go.Proofs.Ytikjighlnpdgiaa

/-
  The nodes of a network that are not connected with a node without a pipe: in the reference and in the program.
-/
set_option linter.unusedVariables false
set_option linter.unusedSimpArgs false
namespace Go.Proofs.Ytikjighlnpdgiaa
open Go.RowKit

/-- The first nodes, from 1 on, at which a row is negative. -/
def neg (L : List Int) (k : Nat) : List Int := ((List.range k).filter fun v => decide (0 < v) && decide (L[v]?.getD 0 < 0)).map fun v : Nat => (v : Int)
theorem neg_yes {L : List Int} {k : Nat} (h0 : 0 < k) (h : L[k]?.getD 0 < 0) : neg L (k + 1) = neg L k ++ [(k : Int)] := by simp [neg, List.range_succ, h, h0]
theorem neg_no {L : List Int} {k : Nat} (h : ¬ (0 < k ∧ L[k]?.getD 0 < 0)) : neg L (k + 1) = neg L k := by
  have : (decide (0 < k) && decide (L[k]?.getD 0 < 0)) = false := by simpa using h
  simp [neg, List.range_succ, this]
theorem neg_len (L : List Int) (k : Nat) : (neg L k).length ≤ k := by
  unfold neg
  rw [List.length_map]
  exact Nat.le_trans (List.length_filter_le _ _) (by simp)
theorem neg_one (L : List Int) : neg L 1 = [] := by simp [neg, List.range_succ]
theorem neg_reach {M : Nat} {l : List Pip} {wo s : Int} {k : Nat} (hk : k < M) : (k : Int) + 1 ∈ reachL M l wo s ↔ ¬ (distL M l wo s)[k + 1]?.getD 0 < 0 := by
  rw [to_reached (by omega), distL_at (by omega) (by omega)]
  have e : ((k + 1 : Nat) : Int) = (k : Int) + 1 := by omega
  rw [e]
  omega

set_option maxRecDepth 100000 in
set_option maxHeartbeats 2000000 in
theorem s_l8Down (M : Nat) (s : Int) (i : Nat) (a : Option Addr) (n c : Nat) (l : List Pip) (w : World) (h : QAt w a n l) (hg : goodNet M l = true) (hc : n ≤ c) (hi : i < n) (hs : 1 ≤ s ∧ s ≤ M) :
    Calls Try.prog 78 #[.agg #[.int .i64 M, .slice a n c], .int .i64 s, .int .i64 i] w fun e w' => ∃ a' c', e = .returned (.slice a' (neg (distL M l (pp l i).1 s) (M + 1)).length c') ∧ OwnI w' w.heap.size (.slice a' (neg (distL M l (pp l i).1 s) (M + 1)).length c') (neg (distL M l (pp l i).1 s) (M + 1)) ∧ Below w.heap.size w w' := by
  have hM : M ≤ 8 := by have := (goodNet_get hg).1; omega
  have hn : n ≤ 10 := by have := (goodNet_get hg).2.1; have := h.1; omega
  have hl := h.1
  obtain ⟨D, hD⟩ : ∃ D, distL M l (pp l i).1 s = D := ⟨_, rfl⟩
  obtain ⟨R, hR⟩ : ∃ R, reachL M (l.eraseIdx i) 0 s = R := ⟨_, rfl⟩
  have HR := hid hR
  have HM := hid (show ∀ k, k < M → ((k : Int) + 1 ∈ R ↔ ¬ D[k + 1]?.getD 0 < 0) from fun k hk => by
    rw [← hR, ← hD, reach_without hg (by omega)]
    exact neg_reach hk)
  rw [hD]
  have hrl : R.length ≤ 8 := by
    rw [← hR]
    have := reachL_len (N := (M : Int)) (l := l.eraseIdx i) (wo := 0) (s := s)
    omega
  have HG2 := hid (goodNet_sub (List.eraseIdx_sublist l i) hg)
  have H := hid h
  have HS := hid hs
  clear h hg hD hR hl hs
  go_enter Try.func78, Try.ntmps78
  go_wp2_with fail
  refine (s_l2Without M i _ _ _ l _ (H.out.below (by go_grown)) (by omega) hc hi).mono ?_
  rintro e w1 ⟨a1, c1, rfl, ho1, hb1⟩
  have HB1 := hid (bstep (by go_grown) hb1 : Below w.heap.size w w1)
  have n0 : w1.cell? ⟨w.heap.size, 0, none⟩ = some (.int .i64 M) := by rw [hb1.cell (p := ⟨w.heap.size, 0, none⟩) (by simp)]; rw [cell_of_row _ _ _ _ _ (0, 0) (heap_alloc_new _ _)]; rfl
  have HO1 := hid ho1
  clear hb1 ho1
  have hz1 : w.heap.size < w1.heap.size := World.block_lt_of_cell? w1 _ n0
  go_wp2_with fail
  refine (s_l2Reached M s _ _ _ (l.eraseIdx i) _ ((OwnS.at qf_len HO1.out).below (by go_grown)) HG2.out HS.out).mono ?_
  rintro e w2 ⟨g2, c2, rfl, ho2, hb2⟩
  rw [HR.out] at ho2 ⊢
  have HB2 := hid (bstep HB1.out hb2 : Below w.heap.size w w2)
  have N2 := hid ((hb2.cell (p := ⟨w.heap.size, 0, none⟩) hz1).trans n0)
  have hlt2 := (ho2.lt g2 rfl)
  have HO2 := hid ho2
  clear n0 ho2 hb2
  have n0 := N2.out
  have hz2 : w.heap.size < w2.heap.size := World.block_lt_of_cell? w2 _ n0
  have HO := hid (show OwnI (w2.alloc (.cells #[] 3)) w2.heap.size (.slice (some ⟨w2.heap.size, 0, none⟩) (neg D 1).length 0) (neg D 1) from by
    rw [neg_one]
    exact OwnI.lit0 w2)
  go_wp2
  go_loopg [8, 9] M (fun g o i wr => ∃ (k : Nat) (a' : Option Addr) (c' : Nat), k ≤ M ∧ g = M - k ∧ i = .int .i64 ((k : Int) + 1) ∧ o = .slice a' (neg D (k + 1)).length c' ∧ Hid (OwnI wr w2.heap.size (.slice a' (neg D (k + 1)).length c') (neg D (k + 1)) ∧ IntsAt wr (some ⟨g2, 0, none⟩) R.length R ∧ Below w2.heap.size w2 wr))
  case atStart => exact ⟨0, some ⟨w2.heap.size, 0, none⟩, 0, Nat.zero_le _, rfl, rfl, by rw [neg_one]; rfl, hid ⟨HO.out, HO2.out.at.below (by go_grown), by go_grown⟩⟩
  case round =>
    obtain ⟨k, a', c', hk, rfl, rfl, rfl, hh⟩ := hrel
    have hlen := neg_len D (k + 1)
    have n1 : wr.cell? ⟨w.heap.size, 0, none⟩ = some (.int .i64 M) := (hh.out.2.2.cell (p := ⟨w.heap.size, 0, none⟩) hz2).trans n0
    by_cases hlt : k < M
    · have hkm : (k : Int) + 1 ≤ (M : Int) := by omega
      by_cases hp : D[k + 1]?.getD 0 < 0
      · have E := hid (neg_yes (k := k + 1) (by omega) hp)
        have F := hid (show decide ((k : Int) + 1 ∈ R) = false by simp; exact fun h => by have := (HM.out k hlt).1 h; omega)
        clear hp
        go_wp2_with fail
        refine (s_l1Has_is _ _ _ _ R _ hh.out.2.1 (by omega) false F.out).mono ?_
        rintro e _ ⟨rfl, rfl⟩
        go_wp2_with (at_builtin; refine wp_append_ints _ rfl _ _ rfl w2.heap.size _ (neg D (k + 1)) rfl (hh.out.1.alloc _) _ 1 1 [(k : Int) + 1] rfl (IntsAt.single _ _) ((neg D (k + 1)).length + 1) (by simp) (by omega) (by have := hh.out.2.2.size; simp; omega) ?_)
        intro a2 c2 w3 hown hgrow hblk
        have e9 : ((k + 1 : Nat) : Int) = (k : Int) + 1 := by omega
        rw [e9] at E
        have hl2 : (neg D (k + 1)).length + 1 = (neg D (k + 1 + 1)).length := by rw [E.out]; simp
        rw [hl2] at hown hblk ⊢
        have S2 := hid (show OwnI w3 w2.heap.size (.slice a2 (neg D (k + 1 + 1)).length c2) (neg D (k + 1 + 1)) ∧ IntsAt w3 (some ⟨g2, 0, none⟩) R.length R ∧ Below w2.heap.size w2 w3 from by
          have hb3 : Below w2.heap.size w2 w3 := (bstep hh.out.2.2 (by go_grown)).grown hgrow (by have := hh.out.2.2.size; simp; omega) (fun q hq => (hh.out.1.lt q hq).1)
          exact ⟨by rw [E.out] at hown ⊢; exact hown, HO2.out.at.below hb3, hb3⟩)
        clear hown hgrow hblk hl2 n1
        go_wp2
        go_roundg (M - (k + 1))
        case rel => exact ⟨k + 1, _, _, by omega, rfl, by go_num, rfl, S2⟩
        case measure => omega
      · have E := hid (neg_no (L := D) (k := k + 1) (fun h => hp h.2))
        have F := hid (show decide ((k : Int) + 1 ∈ R) = true by simp; exact (HM.out k hlt).2 (by omega))
        clear hp
        go_wp2_with fail
        refine (s_l1Has_is _ _ _ _ R _ hh.out.2.1 (by omega) true F.out).mono ?_
        rintro e _ ⟨rfl, rfl⟩
        go_wp2
        go_roundg (M - (k + 1))
        case rel => exact ⟨k + 1, a', c', by omega, rfl, by go_num, by rw [E.out], hid (by rw [E.out]; exact hh.out)⟩
        case measure => omega
    · obtain rfl : k = M := by omega
      go_wp2
      go_ret
      exact ⟨_, _, rfl, hh.out.1.mono HB2.out.size, bstep HB2.out hh.out.2.2⟩

end Go.Proofs.Ytikjighlnpdgiaa

/-
  Trees, in plain lists: no more nodes are reached than there are pipes and one; without a pipe one of its ends is not reached; flows.
-/
set_option linter.unusedVariables false
set_option linter.unusedSimpArgs false
namespace Go.Proofs.Ytikjighlnpdgiaa
open Go.RowKit

theorem nodup_len : ∀ (n : Nat) (A : List Nat), A.Nodup → (∀ x ∈ A, x < n) → A.length ≤ n
  | 0, A, _, h => by
    cases A with
    | nil => simp
    | cons x r => have := h x (by simp); omega
  | n + 1, A, hA, h => by
    by_cases hn : n ∈ A
    · have := nodup_len n (A.erase n) (hA.erase n) (fun x hx => by
        rw [hA.mem_erase_iff] at hx
        have := h x hx.2
        omega)
      have := List.length_erase_of_mem hn
      omega
    · have := nodup_len n A hA (fun x hx => by
        have := h x hx
        have : x ≠ n := fun e => hn (e ▸ hx)
        omega)
      omega
theorem inj_len {A : List Int} {n : Nat} (hA : A.Nodup) (g : Int → Nat) (hg : ∀ x ∈ A, g x < n) (hi : ∀ x ∈ A, ∀ y ∈ A, g x = g y → x = y) : A.length ≤ n := by
  have := nodup_len n (A.map g) (by
    unfold List.Nodup
    rw [List.pairwise_map]
    refine List.Pairwise.imp_of_mem ?_ hA
    intro x y hx hy hne e
    exact hne (hi x hx y hy e)) (fun z hz => by
      obtain ⟨x, hx, rfl⟩ := List.mem_map.1 hz
      exact hg x hx)
  simpa using this
theorem asc_nodup {l : List Int} (h : Asc l) : l.Nodup := List.Pairwise.imp (fun h => by omega) h

theorem oth_ends {p : Pip} {u v : Int} (h : oth p u = v) (hv : 0 < v) : (u = p.2.1 ∧ v = p.2.2.1) ∨ (u = p.2.2.1 ∧ v = p.2.1) := by
  unfold oth at h
  split at h
  · left; exact ⟨by assumption, h.symm⟩
  · split at h
    · right; exact ⟨by assumption, h.symm⟩
    · omega
/-- A pipe leads to a node from one that is nearer by one. -/
def BackK (l : List Pip) (wo s v : Int) (k : Nat) : Prop := k < l.length ∧ (pp l k).1 ≠ wo ∧ ∃ u, oth (pp l k) u = v ∧ 0 < v ∧ far l wo s u = far l wo s v - 1
theorem backK_inj {l : List Pip} {wo s x y : Int} {k : Nat} (hx : BackK l wo s x k) (hy : BackK l wo s y k) : x = y := by
  obtain ⟨-, -, u, h1, h2, h3⟩ := hx
  obtain ⟨-, -, v, h4, h5, h6⟩ := hy
  rcases oth_ends h1 h2 with ⟨a, b⟩ | ⟨a, b⟩ <;> rcases oth_ends h4 h5 with ⟨c, d⟩ | ⟨c, d⟩
  · omega
  · rw [a, b] at h3; rw [c, d] at h6; omega
  · rw [a, b] at h3; rw [c, d] at h6; omega
  · omega
theorem backK_ex {N : Int} {l : List Pip} {wo s v : Int} (hg : goodNet N l = true) (h1 : 1 ≤ v) (h2 : v ≤ N) (h : 0 < far l wo s v) : ∃ k, BackK l wo s v k := by
  obtain ⟨u, ⟨k, hk, hne, ho, hv⟩, hu⟩ := (far_is (wo := wo) (s := s) hg).back v h1 h2 h
  exact ⟨k, hk, hne, u, ho, hv, hu⟩
theorem reach_count {N : Int} {l : List Pip} {s : Int} (hg : goodNet N l = true) : (reachL N l 0 s).length ≤ l.length + 1 := by
  classical
  refine inj_len (asc_nodup (asc_nonneg _ _)) (fun v => if h : ∃ k, BackK l 0 s v k then Classical.choose h else l.length) ?_ ?_
  · intro x hx
    split
    · rename_i h
      have := (Classical.choose_spec h).1
      omega
    · omega
  · intro x hx y hy he
    obtain ⟨⟨x1, x2⟩, x3⟩ := mem_reachL.1 hx
    obtain ⟨⟨y1, y2⟩, y3⟩ := mem_reachL.1 hy
    have only := (far_is (wo := 0) (s := s) hg).only
    split at he <;> split at he
    · rename_i h h'
      have a := Classical.choose_spec h
      have b := Classical.choose_spec h'
      rw [← he] at b
      exact backK_inj a b
    · rename_i h h'
      have := (Classical.choose_spec h).1
      omega
    · rename_i h h'
      have := (Classical.choose_spec h').1
      omega
    · rename_i h h'
      have ex : x = s := only x x1 x2 (by
        apply Classical.byContradiction
        intro hn
        exact h (backK_ex hg x1 x2 (by omega)))
      have ey : y = s := only y y1 y2 (by
        apply Classical.byContradiction
        intro hn
        exact h' (backK_ex hg y1 y2 (by omega)))
      omega
theorem treeB_iff {N : Int} {l : List Pip} (hg : goodNet N l = true) : treeB N l = true ↔ (l.length : Int) = N - 1 ∧ ∀ u v : Int, 1 ≤ u → u ≤ N → 1 ≤ v → v ≤ N → Conn l u v := by
  have hN := (goodNet_get hg).1
  unfold treeB
  simp only [Bool.and_eq_true, decide_eq_true_eq]
  rw [reachL_all (by omega)]
  constructor
  · rintro ⟨h1, h2⟩
    exact ⟨h1, fun u v u1 u2 v1 v2 => (Conn.symm hg (h2 u u1 u2)).trans (h2 v v1 v2)⟩
  · rintro ⟨h1, h2⟩
    exact ⟨h1, fun v v1 v2 => h2 1 v (by omega) (by omega) v1 v2⟩
/-- Where all are connected, and no way is cut by a pipe left out, all are connected without it. -/
theorem all_without {N : Int} {l : List Pip} {s : Int} {i : Nat} (hg : goodNet N l = true) (hi : i < l.length) (hs : 1 ≤ s ∧ s ≤ N) (hc : ∀ v : Int, 1 ≤ v → v ≤ N → Conn l s v)
    (he : 0 ≤ far l (pp l i).1 s (pp l i).2.1 ↔ 0 ≤ far l (pp l i).1 s (pp l i).2.2.1) (v : Int) (h1 : 1 ≤ v) (h2 : v ≤ N) : 0 ≤ far l (pp l i).1 s v := by
  have hd := far_is (wo := (pp l i).1) (s := s) hg
  refine (far_is (wo := 0) (s := s) hg).reach hg (R := fun v => 0 ≤ far l (pp l i).1 s v) (by show 0 ≤ far l (pp l i).1 s s; rw [far_self hg]; omega) ?_ (far l 0 s v).toNat v h1 h2 (by have : 0 ≤ far l 0 s v := hc v h1 h2; omega)
  rintro u x ⟨k, hk, -, ho, hx⟩ hu
  by_cases e : (pp l k).1 = (pp l i).1
  · have hki : k = i := by
      apply Classical.byContradiction
      intro hn
      by_cases h : k < i
      · have := ids_rise hg i k hi h; omega
      · have := ids_rise hg k i hk (by omega); omega
    subst hki
    rcases oth_ends ho hx with ⟨a, b⟩ | ⟨a, b⟩
    · rw [a] at hu; rw [b]; exact he.1 hu
    · rw [a] at hu; rw [b]; exact he.2 hu
  · exact (hd.step u x ⟨k, hk, e, ho, hx⟩ hu).1
/-- In a tree, without a pipe, one of its ends is reached, the other one is not. -/
theorem tree_bridge {N : Int} {l : List Pip} {s : Int} {i : Nat} (hg : goodNet N l = true) (ht : treeB N l = true) (hs : 1 ≤ s ∧ s ≤ N) (hi : i < l.length) : 0 ≤ far l (pp l i).1 s (pp l i).2.1 ↔ ¬ 0 ≤ far l (pp l i).1 s (pp l i).2.2.1 := by
  obtain ⟨h1, h2⟩ := (treeB_iff hg).1 ht
  have key : ¬ (0 ≤ far l (pp l i).1 s (pp l i).2.1 ↔ 0 ≤ far l (pp l i).1 s (pp l i).2.2.1) := by
    intro he
    have hall := all_without hg hi hs (fun v v1 v2 => h2 s v hs.1 hs.2 v1 v2) he
    have hg' := goodNet_sub (List.eraseIdx_sublist l i) hg
    have hN := (goodNet_get hg).1
    have := (reachL_all (l := l.eraseIdx i) (s := s) (N := N) (by omega)).2 (fun v v1 v2 => by
      unfold Conn
      rw [far_without hg hi]
      exact hall v v1 v2)
    have hcnt := reach_count (s := s) hg'
    rw [List.length_eraseIdx_of_lt hi] at hcnt
    omega
  constructor
  · intro a b
    exact key ⟨fun _ => b, fun _ => a⟩
  · intro a
    apply Classical.byContradiction
    intro b
    exact key ⟨fun h => absurd h b, fun h => absurd h a⟩

/-- The demands of the first nodes that are not reached. -/
def dsum (D ds : List Int) : Nat → Int
  | 0 => 0
  | k + 1 => if D[k + 1]?.getD 0 < 0 then dsum D ds k + ds[k]?.getD 0 else dsum D ds k
theorem dsum_yes {D ds : List Int} {k : Nat} (h : D[k + 1]?.getD 0 < 0) : dsum D ds (k + 1) = dsum D ds k + ds[k]?.getD 0 := by simp [dsum, h]
theorem dsum_no {D ds : List Int} {k : Nat} (h : ¬ D[k + 1]?.getD 0 < 0) : dsum D ds (k + 1) = dsum D ds k := by simp [dsum, h]
theorem dsum_fit {D ds : List Int} (h : ∀ x ∈ ds, 0 ≤ x ∧ x ≤ 1000) : ∀ k, k ≤ ds.length → 0 ≤ dsum D ds k ∧ dsum D ds k ≤ 1000 * (k : Int)
  | 0, _ => by simp [dsum]
  | k + 1, hk => by
    have ih := dsum_fit (D := D) h k (by omega)
    have hx := h _ (getD_mem ds k (by omega))
    by_cases hp : D[k + 1]?.getD 0 < 0
    · rw [dsum_yes hp]; omega
    · rw [dsum_no hp]; omega
/-- The demands of nodes. -/
def nsum (ds L : List Int) (k : Nat) : Int := ((L.take k).map fun v => ds[v.toNat - 1]?.getD 0).sum
theorem nsum_succ {ds L : List Int} {k : Nat} (h : k < L.length) : nsum ds L (k + 1) = nsum ds L k + ds[(L[k]?.getD 0).toNat - 1]?.getD 0 := by
  unfold nsum
  rw [take_succ' L k h]
  simp
theorem neg_dsum (D ds : List Int) : ∀ k, ((neg D (k + 1)).map fun v => ds[v.toNat - 1]?.getD 0).sum = dsum D ds k
  | 0 => by simp [neg_one, dsum]
  | k + 1 => by
    have ih := neg_dsum D ds k
    by_cases h : D[k + 1]?.getD 0 < 0
    · rw [neg_yes (k := k + 1) (by omega) h, List.map_append, List.sum_append, ih, dsum_yes h]
      simp
    · rw [neg_no (k := k + 1) (fun e => h e.2), ih, dsum_no h]
theorem nsum_all (D ds : List Int) (M : Nat) : nsum ds (neg D (M + 1)) (neg D (M + 1)).length = dsum D ds M := by
  unfold nsum
  rw [List.take_of_length_le (Nat.le_refl _), neg_dsum]
theorem mem_neg {D : List Int} {k : Nat} {x : Int} : x ∈ neg D k ↔ ∃ v : Nat, v < k ∧ x = v ∧ 0 < v ∧ D[v]?.getD 0 < 0 := by
  unfold neg
  simp only [List.mem_map, List.mem_filter, List.mem_range, Bool.and_eq_true, decide_eq_true_eq]
  constructor
  · rintro ⟨v, ⟨h1, h2, h3⟩, rfl⟩; exact ⟨v, h1, rfl, h2, h3⟩
  · rintro ⟨v, h1, rfl, h2, h3⟩; exact ⟨v, ⟨h1, h2, h3⟩, rfl⟩
theorem nsum_fit {ds L : List Int} (h : ∀ x ∈ ds, 0 ≤ x ∧ x ≤ 1000) : ∀ k, k ≤ L.length → (0 ≤ nsum ds L k ∧ nsum ds L k ≤ 1000 * (k : Int))
  | 0, _ => by simp [nsum]
  | k + 1, hk => by
    have ih := nsum_fit (ds := ds) (L := L) h k (by omega)
    rw [nsum_succ (by omega)]
    by_cases hl : (L[k]?.getD 0).toNat - 1 < ds.length
    · have hx := h _ (getD_mem ds _ hl)
      omega
    · rw [List.getElem?_eq_none (by omega)]
      simp
      omega

/-- The flow through a pipe of a tree. -/
noncomputable def tflow (M : Nat) (l : List Pip) (s : Int) (ds : List Int) (i : Nat) : Int :=
  if (distL M l (pp l i).1 s)[(pp l i).2.2.1.toNat]?.getD 0 < 0 then dsum (distL M l (pp l i).1 s) ds M else -(dsum (distL M l (pp l i).1 s) ds M)
noncomputable def tflows (M : Nat) (l : List Pip) (s : Int) (ds : List Int) (k : Nat) : List Int := (List.range k).map (tflow M l s ds)
theorem tflows_succ (M : Nat) (l : List Pip) (s : Int) (ds : List Int) (k : Nat) : tflows M l s ds (k + 1) = tflows M l s ds k ++ [tflow M l s ds k] := by simp [tflows, List.range_succ]
theorem tflows_len (M : Nat) (l : List Pip) (s : Int) (ds : List Int) (k : Nat) : (tflows M l s ds k).length = k := by simp [tflows]
/-- In a tree the end from which a pipe leads is not reached just where the other one is. -/
theorem tree_from {M : Nat} {l : List Pip} {s : Int} {i : Nat} (hg : goodNet M l = true) (ht : treeB M l = true) (hs : 1 ≤ s ∧ s ≤ M) (hi : i < l.length) : (pp l i).2.1 ∈ neg (distL M l (pp l i).1 s) (M + 1) ↔ ¬ (distL M l (pp l i).1 s)[(pp l i).2.2.1.toNat]?.getD 0 < 0 := by
  obtain ⟨-, p1, p2, -, -⟩ := goodNet_pipe hg hi
  have hb := tree_bridge hg ht hs hi
  rw [distL_at (by omega) (by omega), show (((pp l i).2.2.1.toNat : Nat) : Int) = (pp l i).2.2.1 by omega, mem_neg]
  constructor
  · rintro ⟨v, h1, h2, h3, h4⟩
    rw [distL_at (by omega) (by omega), ← h2] at h4
    apply Classical.byContradiction
    intro h5
    have h6 : far l (pp l i).1 s (pp l i).2.2.1 < 0 := by omega
    have := hb.2 (by omega)
    omega
  · intro h
    refine ⟨(pp l i).2.1.toNat, by omega, by omega, by omega, ?_⟩
    rw [distL_at (by omega) (by omega), show (((pp l i).2.1.toNat : Nat) : Int) = (pp l i).2.1 by omega]
    apply Classical.byContradiction
    intro h5
    exact hb.1 (by omega) (by omega)

end Go.Proofs.Ytikjighlnpdgiaa

/-
  What slices.IndexFunc and slices.ContainsFunc do over a test that only reads.
-/
set_option linter.unusedVariables false
namespace Go.Proofs.Ytikjighlnpdgiaa
open Go.RowKit

def enters (F : Nat) : Prop := ∀ (args : Array Value) (w : World), (callFunc F args).run Try.prog w = .ok (.enter F args) w

/-- The first index at which a test says yes, -1 if there is none. -/
def indexFn (p : Int → Bool) (l : List Int) : Int := match l.findIdx? p with | some i => (i : Int) | none => -1

theorem indexFn_hit (p : Int → Bool) (l : List Int) (k : Nat) (hk : k < l.length) (hp : p (l[k]?.getD 0) = true) (hm : ∀ j, j < k → p (l[j]?.getD 0) = false) : indexFn p l = k := by
  unfold indexFn
  have : l.findIdx? p = some k := by
    rw [List.findIdx?_eq_some_iff_getElem]
    refine ⟨hk, by rw [List.getElem?_eq_getElem hk] at hp; exact hp, fun j hj => ?_⟩
    have := hm j hj
    rw [List.getElem?_eq_getElem (by omega)] at this
    simpa using this
  rw [this]

theorem indexFn_miss (p : Int → Bool) (l : List Int) (hm : ∀ j, j < l.length → p (l[j]?.getD 0) = false) : indexFn p l = -1 := by
  unfold indexFn
  have : l.findIdx? p = none := by
    rw [List.findIdx?_eq_none_iff]
    intro x hx
    obtain ⟨j, hj, rfl⟩ := List.mem_iff_getElem.1 hx
    have := hm j hj
    rw [List.getElem?_eq_getElem hj] at this
    exact this
  rw [this]

set_option maxHeartbeats 400000 in
theorem f_IndexFunc (F : Nat) (cs : Array Value) (p : Int → Bool) (hF : enters F) (a : Option Addr) (n c : Nat) (l : List Int) (w : World) (h : IntsAt w a n l) (hn : n ≤ 4194304)
    (H : ∀ x w', x ∈ l → Below w.heap.size w w' → Calls Try.prog F (#[.int .i64 x] ++ cs) w' fun e w'' => e = .returned (.bool (p x)) ∧ Below w'.heap.size w' w'') :
    Calls Try.prog 45 #[.slice a n c, .func (.func F) #[] cs] w fun e w' => e = .returned (.int .i64 (indexFn p l)) ∧ Below w.heap.size w w' := by
  unfold enters at hF
  have HC := hid H
  have HI := hid h
  clear h H
  go_enter Try.func45, Try.ntmps45
  go_wp2
  go_loopw [5, 8] (fun j i wr => ∃ k : Nat, k ≤ n ∧ i = .int .i64 k ∧ Hid (Below w.heap.size w wr ∧ ∀ j, j < k → p (l[j]?.getD 0) = false)) (fun _ i _ => n - (intOf i).toNat)
  case atStart => exact ⟨0, Nat.zero_le _, rfl, Below.refl _ _, fun j hj => absurd hj (by omega)⟩
  case round =>
    obtain ⟨k, hk, rfl, hh⟩ := hrel
    by_cases hlt : k < n
    · obtain ⟨b, off, rfl, hbw, hcell⟩ := (HI.out.below hh.out.1).2 k hlt
      have hm : l[k]?.getD 0 ∈ l := getD_mem l k (by have := HI.out.1; omega)
      have hfun := hid (HC.out _ _ hm hh.out.1)
      clear hm
      cases hp : p (l[k]?.getD 0)
      · go_wp2_with fail
        refine hfun.out.mono ?_
        rintro e w' ⟨rfl, hb⟩
        rw [hp]
        have HP := hid hp
        have HB := hid hb
        clear hp hb
        go_wp2
        go_roundw
        case rel =>
          refine ⟨k + 1, by omega, by go_num, bstep hh.out.1 HB.out, fun j hj => ?_⟩
          by_cases e : j = k
          · subst e; exact HP.out
          · exact hh.out.2 j (by omega)
        case measure => simp [intOf]; omega
      · go_wp2_with fail
        refine hfun.out.mono ?_
        rintro e w' ⟨rfl, hb⟩
        rw [hp]
        have HP := hid hp
        have HB := hid hb
        clear hp hb
        go_wp2
        go_ret
        refine ⟨ret_int ?_, bstep hh.out.1 HB.out⟩
        rw [indexFn_hit p l k (by have := HI.out.1; omega) HP.out hh.out.2]
    · go_wp2
      go_ret
      refine ⟨ret_int ?_, hh.out.1⟩
      rw [indexFn_miss p l (fun j hj => hh.out.2 j (by have := HI.out.1; omega))]

theorem indexFn_any (p : Int → Bool) (l : List Int) : decide (0 ≤ indexFn p l) = l.any p := by
  unfold indexFn
  cases h : l.findIdx? p with
  | none => 
    rw [List.findIdx?_eq_none_iff] at h
    symm; simp; intro x hx; simpa using h x hx
  | some i =>
    have hl : i < l.length := by
      obtain ⟨h1, _⟩ := List.findIdx?_eq_some_iff_getElem.1 h
      exact h1
    have : l.any p = true := by
      rw [List.any_eq_true]
      obtain ⟨h1, h2, _⟩ := List.findIdx?_eq_some_iff_getElem.1 h
      exact ⟨l[i], List.getElem_mem h1, h2⟩
    rw [this]; simp

theorem f_ContainsFunc (F : Nat) (cs : Array Value) (p : Int → Bool) (hF : enters F) (a : Option Addr) (n c : Nat) (l : List Int) (w : World) (h : IntsAt w a n l) (hn : n ≤ 4194304)
    (H : ∀ x w', x ∈ l → Below w.heap.size w w' → Calls Try.prog F (#[.int .i64 x] ++ cs) w' fun e w'' => e = .returned (.bool (p x)) ∧ Below w'.heap.size w' w'') :
    Calls Try.prog 60 #[.slice a n c, .func (.func F) #[] cs] w fun e w' => e = .returned (.bool (l.any p)) ∧ Below w.heap.size w w' := by
  have HF := hid (f_IndexFunc F cs p hF a n c l w h hn H)
  clear hF h H
  have HP := hid (indexFn_any p l)
  go_enter Try.func60, Try.ntmps60
  go_wp2_with fail
  refine HF.out.mono ?_
  rintro e w' ⟨rfl, hb⟩
  go_wp2
  go_ret
  exact ⟨ret_bool HP.out, hb⟩

end Go.Proofs.Ytikjighlnpdgiaa

/-
  Demands and flows: which are valid.
-/
set_option linter.unusedVariables false
set_option linter.unusedSimpArgs false
namespace Go.Proofs.Ytikjighlnpdgiaa
open Go.RowKit

theorem any_in {l : List Int} {lo hi : Int} : (l.any fun x => !inR x lo hi) = false ↔ ∀ x ∈ l, lo ≤ x ∧ x ≤ hi := by
  rw [List.any_eq_false]
  constructor
  · intro h x hx
    have := h x hx
    simp only [Bool.not_eq_true, Bool.not_eq_false'] at this
    exact inR_iff.1 this
  · intro h x hx
    simp [inR_iff.2 (h x hx)]
def goodDem (N : Int) (l : List Int) : Bool := decide ((l.length : Int) = N) && !l.any (fun x => !inR x 0 1000)
def goodFl (n : Nat) (l : List Int) : Bool := decide (l.length = n) && !l.any (fun x => !inR x (-8000) 8000)
theorem goodDem_iff {N : Int} {l : List Int} : goodDem N l = true ↔ (l.length : Int) = N ∧ ∀ x ∈ l, 0 ≤ x ∧ x ≤ 1000 := by simp only [goodDem, Bool.and_eq_true, decide_eq_true_eq, Bool.not_eq_true', any_in]
theorem goodFl_iff {n : Nat} {l : List Int} : goodFl n l = true ↔ l.length = n ∧ ∀ x ∈ l, -8000 ≤ x ∧ x ≤ 8000 := by simp only [goodFl, Bool.and_eq_true, decide_eq_true_eq, Bool.not_eq_true', any_in]

theorem enters_i_areDemands : enters 82 := by intro args w; kernel_rfl
theorem i_areDemands1 (x : Int) (w : World) : Calls Try.prog 82 #[.int .i64 x] w fun e w' => e = .returned (.bool (!inR x 0 1000)) ∧ Below w.heap.size w w' := by
  go_enter Try.func82, Try.ntmps82
  go_wp2_with fail
  refine (i_inside _ _ _ _).mono ?_
  rintro e w' ⟨rfl, rfl⟩
  go_wp2
  go_ret
  exact ⟨rfl, by go_grown⟩
theorem i_areDemands (N : Int) (a b : Option Addr) (n c m d : Nat) (l : List Int) (w : World) (h : IntsAt w b m l) (hm : m ≤ 1048576) :
    Calls Try.prog 42 #[.agg #[.int .i64 N, .slice a n c], .slice b m d] w fun e w' => e = .returned (.bool (goodDem N l)) ∧ Below w.heap.size w w' := by
  have hl := h.1
  have H := hid h
  clear h
  by_cases h1 : (m : Int) = N
  · have E := hid (show (!l.any (fun x => !inR x 0 1000)) = goodDem N l by simp [goodDem, goodFl, hl, h1])
    clear hl
    skip
    go_enter Try.func42, Try.ntmps42
    go_wp2_with fail
    refine (f_ContainsFunc 82 #[] (fun x => !inR x 0 1000) enters_i_areDemands b m d l _ (H.out.below (by go_grown)) (by omega) (fun x w' _ _ => i_areDemands1 x w')).mono ?_
    rintro e w1 ⟨rfl, hb1⟩
    go_wp2
    go_ret
    exact ⟨ret_bool E.out, bstep (by go_grown) hb1⟩
  · have E := hid (show false = goodDem N l by simp [goodDem, goodFl, hl, h1])
    go_enter Try.func42, Try.ntmps42
    go_wp2
    go_ret
    exact ⟨ret_bool E.out, by go_grown⟩

theorem enters_i_areFlows : enters 95 := by intro args w; kernel_rfl
theorem i_areFlows1 (x : Int) (w : World) : Calls Try.prog 95 #[.int .i64 x] w fun e w' => e = .returned (.bool (!inR x (-8000) 8000)) ∧ Below w.heap.size w w' := by
  go_enter Try.func95, Try.ntmps95
  go_wp2_with fail
  refine (i_inside _ _ _ _).mono ?_
  rintro e w' ⟨rfl, rfl⟩
  go_wp2
  go_ret
  exact ⟨rfl, by go_grown⟩
theorem i_areFlows (N : Int) (a b : Option Addr) (n c m d : Nat) (l : List Int) (w : World) (h : IntsAt w b m l) (hm : m ≤ 1048576) :
    Calls Try.prog 63 #[.agg #[.int .i64 N, .slice a n c], .slice b m d] w fun e w' => e = .returned (.bool (goodFl n l)) ∧ Below w.heap.size w w' := by
  have hl := h.1
  have H := hid h
  clear h
  by_cases h1 : m = n
  · have E := hid (show (!l.any (fun x => !inR x (-8000) 8000)) = goodFl n l by simp [goodDem, goodFl, hl, h1])
    clear hl
    subst h1
    go_enter Try.func63, Try.ntmps63
    go_wp2_with fail
    refine (f_ContainsFunc 95 #[] (fun x => !inR x (-8000) 8000) enters_i_areFlows b m d l _ (H.out.below (by go_grown)) (by omega) (fun x w' _ _ => i_areFlows1 x w')).mono ?_
    rintro e w1 ⟨rfl, hb1⟩
    go_wp2
    go_ret
    exact ⟨ret_bool E.out, bstep (by go_grown) hb1⟩
  · have E := hid (show false = goodFl n l by simp [goodDem, goodFl, hl, h1])
    go_enter Try.func63, Try.ntmps63
    go_wp2
    go_ret
    exact ⟨ret_bool E.out, by go_grown⟩
set_option maxHeartbeats 1000000 in
theorem s_l8Demands (N : Int) (a b : Option Addr) (n c m d : Nat) (l : List Int) (w : World) (h : IntsAt w b m l) (hm : m ≤ 1048576) :
    Calls Try.prog 32 #[.agg #[.int .i64 N, .slice a n c], .slice b m d] w fun e w' => e = .returned (.bool (goodDem N l)) ∧ Below w.heap.size w w' := by
  have H := hid h
  have HL := hid h.1
  clear h
  go_enter Try.func32, Try.ntmps32
  go_wp2
  go_loopg [5] m (fun g i wr => ∃ k : Nat, k ≤ m ∧ g = m - k ∧ i = .int .i64 k ∧ wr = w.alloc (.cells #[.int .i64 N, .slice a n c] 31) ∧ Hid (∀ x ∈ l.take k, 0 ≤ x ∧ x ≤ 1000))
  case atStart => exact ⟨0, Nat.zero_le _, rfl, rfl, rfl, hid (fun x hx => by simp at hx)⟩
  case round =>
    obtain ⟨k, hk, rfl, rfl, rfl, hh⟩ := hrel
    by_cases hlt : k < m
    · obtain ⟨b1, off, rfl, hbw, hcell⟩ := (H.out.below ((Below.refl _ _).alloc (Nat.le_refl _) (.cells #[.int .i64 N, .slice a n c] 31))).2 k hlt
      cases hx : inR (l[k]?.getD 0) 0 1000
      · have HX := hid hx
        clear hx
        go_wp2_with fail
        refine (s_l1In _ _ _ _).mono ?_
        rintro e _ ⟨rfl, rfl⟩
        rw [HX.out]
        go_wp2
        go_ret
        refine ⟨ret_bool ?_, by go_grown⟩
        have : goodDem N l ≠ true := fun e => by
          simp only [goodDem, goodFl, Bool.and_eq_true, Bool.not_eq_true', any_in] at e
          have h2 := e.2 _ (getD_mem' (k := k) (by have := HL.out; omega))
          rw [inR_iff.2 h2] at HX
          exact absurd HX.out (by simp)
        simpa using this.symm
      · have HX := hid hx
        have hx2 := inR_iff.1 hx
        clear hx
        go_wp2_with fail
        refine (s_l1In _ _ _ _).mono ?_
        rintro e _ ⟨rfl, rfl⟩
        rw [HX.out]
        go_wp2
        go_roundg (m - (k + 1))
        case rel =>
          refine ⟨k + 1, by omega, rfl, by go_num, rfl, hid ?_⟩
          intro x hx
          rw [take_succ' l k (by have := HL.out; omega), List.mem_append, List.mem_singleton] at hx
          rcases hx with hx | rfl
          · exact hh.out x hx
          · exact hx2
        case measure => omega
    · obtain rfl : m = k := by omega
      have hall : l.take m = l := List.take_of_length_le (by have := HL.out; omega)
      have ha : ∀ x ∈ l, 0 ≤ x ∧ x ≤ 1000 := hall ▸ hh.out
      have hl := HL.out
      by_cases h1 : (m : Int) = N
      · have E := hid (show true = goodDem N l by first | exact (goodDem_iff.2 ⟨by omega, ha⟩).symm | exact (goodFl_iff.2 ⟨by omega, ha⟩).symm)
        clear hall ha hl
        go_wp2
        go_ret
        exact ⟨ret_bool (by first | exact E.out | (rw [← E.out]; simp; omega)), by go_grown⟩
      · have E := hid (show false = goodDem N l by first | exact (Bool.eq_false_iff.2 fun e => h1 (by have := (goodDem_iff.1 e).1; omega)).symm | exact (Bool.eq_false_iff.2 fun e => h1 (by have := (goodFl_iff.1 e).1; omega)).symm)
        clear hall ha hl
        go_wp2
        go_ret
        exact ⟨ret_bool (by first | exact E.out | (rw [← E.out]; simp; omega)), by go_grown⟩


end Go.Proofs.Ytikjighlnpdgiaa

/-
  Networks: supply, energy.
-/
set_option linter.unusedVariables false
set_option linter.unusedSimpArgs false
namespace Go.Proofs.Ytikjighlnpdgiaa
open Go.RowKit

theorem i_isFlowing (N : Int) (a b : Option Addr) (n c m d : Nat) (l : List Pip) (fs : List Int) (w : World) (h : QAt w a n l) (h' : IntsAt w b m fs) (hn : n ≤ 1048576) (hm : m ≤ 1048576) :
    Calls Try.prog 59 #[.agg #[.int .i64 N, .slice a n c], .slice b m d] w fun e w' => e = .returned (.bool (goodNet N l && goodFl n fs)) ∧ Below w.heap.size w w' := by
  have H := hid h
  have H' := hid h'
  clear h h'
  cases h1 : goodNet N l
  · have HG := hid h1
    clear h1
    go_enter Try.func59, Try.ntmps59
    go_wp2_with fail
    refine (i_IsValidNetwork N _ _ _ l _ (H.out.below (by go_grown)) (by omega)).mono ?_
    rintro e w1 ⟨rfl, hb1⟩
    rw [HG.out]
    obtain ⟨hc_w1, hf_w1⟩ := bcell hb1
    have hz_w1_0 : w.heap.size < w1.heap.size := by have := hb1.size; simp only [World.size_alloc] at this; omega
    have HB1 := hid (bstep (by go_grown) hb1 : Below w.heap.size w w1)
    go_wp2
    go_ret
    exact ⟨rfl, HB1.out⟩
  · have HG := hid h1
    clear h1
    go_enter Try.func59, Try.ntmps59
    go_wp2_with fail
    refine (i_IsValidNetwork N _ _ _ l _ (H.out.below (by go_grown)) (by omega)).mono ?_
    rintro e w1 ⟨rfl, hb1⟩
    rw [HG.out]
    obtain ⟨hc_w1, hf_w1⟩ := bcell hb1
    have hz_w1_0 : w.heap.size < w1.heap.size := by have := hb1.size; simp only [World.size_alloc] at this; omega
    have HB1 := hid (bstep (by go_grown) hb1 : Below w.heap.size w w1)
    go_wp2_with fail
    refine (i_areFlows N _ _ n _ _ _ fs _ (H'.out.below HB1.out) hm).mono ?_
    rintro e w2 ⟨rfl, hb2⟩
    go_wp2
    go_ret
    exact ⟨rfl, bstep HB1.out hb2⟩

/-- What SupplyOf returns. -/
def supply (N : Int) (l : List Pip) (ds : List Int) : Int × Bool := if goodNet N l = true ∧ goodDem N ds = true then (ds.sum, true) else (0, false)

theorem s_l8Abs (x : Int) (w : World) (h : -4611686018427387904 ≤ x ∧ x ≤ 4611686018427387904) : Calls Try.prog 80 #[.int .i64 x] w fun e w' => e = .returned (.int .i64 (max x (-x))) ∧ w = w' := by
  go_enter Try.func80, Try.ntmps80
  go_wp2_with fail
  refine (s_l1Most _ _ _).mono ?_
  rintro e _ ⟨rfl, rfl⟩
  go_wp2
  go_ret
  exact ⟨rfl, rfl⟩

/-- The energy of flows. -/
def enrg (l : List Pip) (fs : List Int) (k : Nat) : Int := ((List.range k).map fun j => (pp l j).2.2.2 * max (fs[j]?.getD 0) (-(fs[j]?.getD 0)) * fs[j]?.getD 0 * fs[j]?.getD 0).sum
theorem enrg_succ (l : List Pip) (fs : List Int) (k : Nat) : enrg l fs (k + 1) = enrg l fs k + (pp l k).2.2.2 * max (fs[k]?.getD 0) (-(fs[k]?.getD 0)) * fs[k]?.getD 0 * fs[k]?.getD 0 := by simp [enrg, List.range_succ]
theorem enrg_fit {s q : Int} (hs : 1 ≤ s ∧ s ≤ 9) (hq : -2000 ≤ q ∧ q ≤ 2000) : (0 ≤ s * max q (-q) ∧ s * max q (-q) ≤ 18000) ∧ (-36000000 ≤ s * max q (-q) * q ∧ s * max q (-q) * q ≤ 36000000) ∧ (-72000000000 ≤ s * max q (-q) * q * q ∧ s * max q (-q) * q * q ≤ 72000000000) := by
  have hm : 0 ≤ max q (-q) ∧ max q (-q) ≤ 2000 := by omega
  have a1 := mul_in (x := s) (y := max q (-q)) (A := 9) (B := 2000) (by omega) (by omega)
  have a2 := Int.mul_nonneg (a := s) (b := max q (-q)) (by omega) (by omega)
  simp only [Int.reduceMul] at a1
  have b1 := mul_in (x := s * max q (-q)) (y := q) (A := 18000) (B := 2000) (by omega) (by omega)
  simp only [Int.reduceMul] at b1
  have c1 := mul_in (x := s * max q (-q) * q) (y := q) (A := 36000000) (B := 2000) (by omega) (by omega)
  simp only [Int.reduceMul] at c1
  exact ⟨⟨a2, by omega⟩, by omega, by omega⟩

end Go.Proofs.Ytikjighlnpdgiaa

/-
  Networks: a pipe found by its Id, the loss of a pipe.
-/
set_option linter.unusedVariables false
set_option linter.unusedSimpArgs false
namespace Go.Proofs.Ytikjighlnpdgiaa
open Go.RowKit

/-- The index of the pipe with an Id, -1 if there is none. -/
def findQ (l : List Pip) (id : Int) : Int := match l.findIdx? (fun p => decide (p.1 = id)) with | some i => (i : Int) | none => -1
theorem findQ_hit {l : List Pip} {id : Int} {k : Nat} (hk : k < l.length) (hp : (pp l k).1 = id) (hm : ∀ j, j < k → (pp l j).1 ≠ id) : findQ l id = k := by
  unfold findQ
  have : l.findIdx? (fun p => decide (p.1 = id)) = some k := by
    rw [List.findIdx?_eq_some_iff_getElem]
    refine ⟨hk, by unfold pp at hp; rw [List.getElem?_eq_getElem hk] at hp; simpa using hp, fun j hj => ?_⟩
    have := hm j hj
    unfold pp at this
    rw [List.getElem?_eq_getElem (by omega)] at this
    simpa using this
  rw [this]
theorem findQ_miss {l : List Pip} {id : Int} (hm : ∀ j, j < l.length → (pp l j).1 ≠ id) : findQ l id = -1 := by
  unfold findQ
  have : l.findIdx? (fun p => decide (p.1 = id)) = none := by
    rw [List.findIdx?_eq_none_iff]
    intro x hx
    obtain ⟨j, hj, rfl⟩ := List.mem_iff_getElem.1 hx
    have := hm j hj
    unfold pp at this
    rw [List.getElem?_eq_getElem hj] at this
    simpa using this
  rw [this]
theorem findQ_cases (l : List Pip) (id : Int) : findQ l id = -1 ∨ ∃ k : Nat, k < l.length ∧ findQ l id = k := by
  unfold findQ
  cases h : l.findIdx? (fun p => decide (p.1 = id)) with
  | none => exact .inl rfl
  | some i =>
    obtain ⟨h1, -, -⟩ := List.findIdx?_eq_some_iff_getElem.1 h
    exact .inr ⟨i, h1, rfl⟩

set_option maxHeartbeats 1000000 in
theorem s_l2Find (N id : Int) (a : Option Addr) (n c : Nat) (l : List Pip) (w : World) (h : QAt w a n l) (hn : n ≤ 1048576) :
    Calls Try.prog 77 #[.agg #[.int .i64 N, .slice a n c], .int .i64 id] w fun e w' => e = .returned (.int .i64 (findQ l id)) ∧ Below w.heap.size w w' := by
  have H := hid h
  have HL := hid h.1
  clear h
  go_enter Try.func77, Try.ntmps77
  go_wp2
  go_loopg [5] n (fun g i wr => ∃ k : Nat, k ≤ n ∧ g = n - k ∧ i = .int .i64 k ∧ wr = w.alloc (.cells #[.int .i64 N, .slice a n c] 31) ∧ Hid (∀ j, j < k → (pp l j).1 ≠ id))
  case atStart => exact ⟨0, Nat.zero_le _, rfl, rfl, rfl, hid (fun j hj => absurd hj (by omega))⟩
  case round =>
    obtain ⟨k, hk, rfl, rfl, rfl, hh⟩ := hrel
    by_cases hlt : k < n
    · obtain ⟨b0, off0, rfl, hbw, x0, x1, x2, x3⟩ := QAt.get (H.out.below ((Below.refl _ _).alloc (Nat.le_refl _) (.cells #[.int .i64 N, .slice a n c] 31))) k hlt
      by_cases hp : (pp l k).1 = id
      · have E := hid (findQ_hit (by have := HL.out; omega) hp hh.out)
        go_wp2
        go_ret
        exact ⟨ret_int E.out.symm, by go_grown⟩
      · go_wp2
        go_roundg (n - (k + 1))
        case rel =>
          refine ⟨k + 1, by omega, rfl, by go_num, rfl, hid (fun j hj => ?_)⟩
          by_cases e : j = k
          · subst e; exact hp
          · exact hh.out j (by omega)
        case measure => omega
    · obtain rfl : n = k := by omega
      have E := hid (findQ_miss (l := l) (id := id) (fun j hj => hh.out j (by have := HL.out; omega)))
      go_wp2
      go_ret
      exact ⟨ret_int E.out.symm, by go_grown⟩

theorem enters_pipeIndex : enters 99 := by intro args w; kernel_rfl

theorem i_pipeIndex1 (p0 p1 p2 p3 id : Int) (g : Nat) (w : World) (h : w.cell? ⟨g, 0, none⟩ = some (.int .i64 id)) :
    Calls Try.prog 99 #[.agg #[.int .i64 p0, .int .i64 p1, .int .i64 p2, .int .i64 p3], .pointer (some ⟨g, 0, none⟩)] w fun e w' => e = .returned (.bool (decide (p0 = id))) ∧ Below w.heap.size w w' := by
  have hg := World.block_lt_of_cell? w _ h
  by_cases hp : p0 = id
  · have E := hid (show true = decide (p0 = id) by simp [hp])
    go_enter Try.func99, Try.ntmps99
    go_wp2
    go_ret
    exact ⟨ret_bool (by simp [hp]), by go_grown⟩
  · have E := hid (show false = decide (p0 = id) by simp [hp])
    go_enter Try.func99, Try.ntmps99
    go_wp2
    go_ret
    exact ⟨ret_bool (by simp [hp]), by go_grown⟩

set_option maxHeartbeats 1000000 in
theorem f_IndexFuncQ (g : Nat) (id : Int) (a : Option Addr) (n c : Nat) (l : List Pip) (w : World) (h : QAt w a n l) (hn : n ≤ 4194304) (hid0 : w.cell? ⟨g, 0, none⟩ = some (.int .i64 id)) :
    Calls Try.prog 98 #[.slice a n c, .func (.func 99) #[] #[.pointer (some ⟨g, 0, none⟩)]] w fun e w' => e = .returned (.int .i64 (findQ l id)) ∧ Below w.heap.size w w' := by
  have hF := enters_pipeIndex
  unfold enters at hF
  have HI := hid h
  have HL := hid h.1
  have HD := hid hid0
  have HZ := hid (World.block_lt_of_cell? w _ hid0)
  clear h hid0
  go_enter Try.func98, Try.ntmps98
  go_wp2
  go_loopw [5, 8] (fun j i wr => ∃ k : Nat, k ≤ n ∧ i = .int .i64 k ∧ Hid (Below w.heap.size w wr ∧ ∀ j, j < k → (pp l j).1 ≠ id)) (fun _ i _ => n - (intOf i).toNat)
  case atStart => exact ⟨0, Nat.zero_le _, rfl, Below.refl _ _, fun j hj => absurd hj (by omega)⟩
  case round =>
    obtain ⟨k, hk, rfl, hh⟩ := hrel
    by_cases hlt : k < n
    · obtain ⟨b, off, rfl, hbw, x0, x1, x2, x3⟩ := QAt.get (HI.out.below hh.out.1) k hlt
      have hfun := hid (i_pipeIndex1 (pp l k).1 (pp l k).2.1 (pp l k).2.2.1 (pp l k).2.2.2 id g wr ((hh.out.1.cell HZ.out).trans HD.out))
      by_cases hp : (pp l k).1 = id
      · have HP := hid hp
        have HT := hid (show decide ((pp l k).1 = id) = true by simp [hp])
        clear hp
        go_wp2_with fail
        refine hfun.out.mono ?_
        rintro e w' ⟨rfl, hb⟩
        rw [HT.out]
        have HB := hid hb
        clear hb
        go_wp2
        go_ret
        refine ⟨ret_int ?_, bstep hh.out.1 HB.out⟩
        rw [findQ_hit (by have := HL.out; omega) HP.out hh.out.2]
      · have HP := hid hp
        have HT := hid (show decide ((pp l k).1 = id) = false by simp [hp])
        clear hp
        go_wp2_with fail
        refine hfun.out.mono ?_
        rintro e w' ⟨rfl, hb⟩
        rw [HT.out]
        have HB := hid hb
        clear hb
        go_wp2
        go_roundw
        case rel =>
          refine ⟨k + 1, by omega, by go_num, bstep hh.out.1 HB.out, fun j hj => ?_⟩
          by_cases e : j = k
          · subst e; exact HP.out
          · exact hh.out.2 j (by omega)
        case measure => simp [intOf]; omega
    · go_wp2
      go_ret
      refine ⟨ret_int ?_, hh.out.1⟩
      rw [findQ_miss (fun j hj => hh.out.2 j (by have := HL.out; omega))]

theorem last_newL (W : World) (x : Obj) (g : Nat) (hg : g = W.heap.size) : (W.alloc x).heap[g]? = some x := by
  subst hg
  exact heap_alloc_new _ _
theorem i_pipeIndex (N id : Int) (a : Option Addr) (n c : Nat) (l : List Pip) (w : World) (h : QAt w a n l) (hn : n ≤ 1048576) :
    Calls Try.prog 70 #[.agg #[.int .i64 N, .slice a n c], .int .i64 id] w fun e w' => e = .returned (.int .i64 (findQ l id)) ∧ Below w.heap.size w w' := by
  have H := hid h
  clear h
  go_enter Try.func70, Try.ntmps70
  go_wp2_with fail
  refine (f_IndexFuncQ (w.heap.size + 1) id _ _ _ l _ (H.out.below (by go_grown)) (by omega) (cell_of_row _ _ 0 _ _ (0, 0) (last_newL (w.alloc (.cells #[.int .i64 N, .slice a n c] 31)) (.cells #[.int .i64 id] 3) _ (by simp)))).mono ?_
  rintro e w1 ⟨rfl, hb1⟩
  go_wp2
  go_ret
  exact ⟨rfl, bstep (by go_grown) hb1⟩

/-- The loss of the pipe at an index. -/
def loss (l : List Pip) (fs : List Int) (k : Nat) : Int := (pp l k).2.2.2 * fs[k]?.getD 0 * max (fs[k]?.getD 0) (-(fs[k]?.getD 0))
theorem loss_fit {s q : Int} (hs : 1 ≤ s ∧ s ≤ 9) (hq : -8000 ≤ q ∧ q ≤ 8000) : (-72000 ≤ s * q ∧ s * q ≤ 72000) ∧ (-576000000 ≤ s * q * max q (-q) ∧ s * q * max q (-q) ≤ 576000000) := by
  have hm : 0 ≤ max q (-q) ∧ max q (-q) ≤ 8000 := by omega
  have a1 := mul_in (x := s) (y := q) (A := 9) (B := 8000) (by omega) (by omega)
  simp only [Int.reduceMul] at a1
  have b1 := mul_in (x := s * q) (y := max q (-q)) (A := 72000) (B := 8000) (by omega) (by omega)
  simp only [Int.reduceMul] at b1
  exact ⟨a1, b1⟩



/-- What LossOf returns. -/
def lossR (N : Int) (l : List Pip) (fs : List Int) (id : Int) : Int × Bool := if goodNet N l = true ∧ goodFl l.length fs = true ∧ 0 ≤ findQ l id then (loss l fs (findQ l id).toNat, true) else (0, false)

end Go.Proofs.Ytikjighlnpdgiaa

