/-
  Texts of this claim, joined: DrawT, Down, TreeA, NetD, NetE, NetL, WayA.
-/
import Derived.Test.YtpmffboojkfpdaaSp1
import Derived.Test.YtpmffboojkfpdaaSp2
import Derived.Test.YtpmffboojkfpdaaSp6
import Derived.Test.YtpmffboojkfpdaaSp7
import Derived.Test.YtpmffboojkfpdaaSp8
import Derived.Test.YtpmffboojkfpdaaSp9
import Derived.Test.YtpmffboojkfpdaaSp12
/-
  The draws of rings with flows and a number.
-/
set_option linter.unusedVariables false
set_option linter.unusedSimpArgs false
namespace Go.Proofs.Ytpmffboojkfpdaa
open Go.RowKit


set_option maxRecDepth 100000 in
set_option maxHeartbeats 8000000 in
theorem s_DrawTurnFlows (a0 : Option Addr) (n0 c0 : Nat) (w : World) (h : BytesAt w a0 n0) :
    Calls Try.prog 60 #[.slice a0 n0 c0] w fun e w' => ∃ (N : Int) (a : Option Addr) (m c : Nat) (L : List Pip) (a1 : Option Addr) (m1 c1 : Nat) (l1 : List Int) (v2 : Int), e = .returned (.tuple #[.agg #[.int .i64 N, .slice a m c], .slice a1 m1 c1, .int .i64 v2]) ∧ OwnQ w' w.heap.size (.slice a m c) L ∧ OwnI w' w.heap.size (.slice a1 m1 c1) l1 ∧ ((0 ≤ N ∧ N ≤ 9) ∧ m ≤ 11 ∧ m1 ≤ 1001) ∧ Below w.heap.size w w' := by
  have H := hid h
  clear h
  have T0 := hid (heap_alloc_new w (.cells #[.int .i64 0, .slice none 0 0] 69))
  go_enter Try.func60, Try.ntmps60
  go_upto_region 2 with fail
  have B0 := hid (by go_grown : Below w.heap.size w ((w.alloc (.cells #[.int .i64 0, .slice none 0 0] 69)).alloc (.cells #[.slice a0 n0 c0, .int .i64 0, .int .u64 0] 85)))
  have C0 := hid (Cur.start (c := c0) (g := w.heap.size + 1) (H.out.below (by go_grown : Below w.heap.size w (w.alloc (.cells #[.int .i64 0, .slice none 0 0] 69)))) (by simp))
  have R0 := hid (mid_new w (.cells #[.int .i64 0, .slice none 0 0] 69) (.cells #[.slice a0 n0 c0, .int .i64 0, .int .u64 0] 85) w.heap.size rfl)
  have hz0 : w.heap.size + 1 < ((w.alloc (.cells #[.int .i64 0, .slice none 0 0] 69)).alloc (.cells #[.slice a0 n0 c0, .int .i64 0, .int .u64 0] 85)).heap.size := by simp
  obtain ⟨g, hgg⟩ : ∃ g, w.heap.size + 1 = g := ⟨_, rfl⟩
  rw [hgg] at C0 hz0 ⊢
  generalize (w.alloc (.cells #[.int .i64 0, .slice none 0 0] 69)).alloc (.cells #[.slice a0 n0 c0, .int .i64 0, .int .u64 0] 85) = w0 at *
  have hwg : w.heap.size < g := by omega
  clear hgg
  go_wp2_with fail
  refine (c_ring g 0 _ C0.out (by omega)).mono ?_
  rintro e w1 ⟨⟨N, a, m, c, rfl, ⟨hN0, hN1, hm⟩, L, ho⟩, hc1, hg1⟩
  have hz1 := hg1.size
  have S2 := hid (show DB w (w1.alloc (.cells #[.int .i64 N, .slice a m c] 69)) g w1.heap.size (0 + 900) N a m c L from
    ⟨hc1.below (by go_grown), bstep (Below.grown B0.out hg1 B0.out.size (fun q e => by have := Option.some.inj e; omega)) (by go_grown), heap_alloc_new _ _, (Below.heap_alloc _ _ _ (by omega)).trans ((hg1.block w.heap.size (by omega) (fun e => by have := Option.some.inj e; omega)).trans R0.out), OwnS.mono (OwnS.below ho (by go_grown)) (by omega), fun k e => by have := OwnS.lt ho k e; omega, by omega⟩)
  clear hc1 hg1 ho
  go_upto_region 3 with fail
  obtain ⟨b, hb⟩ : ∃ b, w1.heap.size = b := ⟨_, rfl⟩
  rw [hb] at S2 ⊢
  generalize w1.alloc (.cells #[.int .i64 N, .slice a m c] 69) = w2 at *
  clear hb hz1
  obtain ⟨Z, hZ⟩ : ∃ Z, w2.heap.size = Z := ⟨_, rfl⟩
  have HLZ := hid (show (∀ q, Value.ownBlock (.slice a m c) = some q → q < Z) ∧ g < Z ∧ b < Z ∧ w.heap.size < Z from ⟨fun q e => by have := (OwnS.lt S2.out.own q e).2; omega, by have := S2.out.cur.lt; omega, by have := S2.out.lt; omega, by have := S2.out.lt; omega⟩)
  go_upto_region 4 with fail
  have S3 := hid (S2.out.below (by go_grown : Below w2.heap.size w2 (w2.alloc (.cells #[] 3))))
  have O3 := hid (show OwnI (w2.alloc (.cells #[] 3)) Z (.slice (some ⟨Z, 0, none⟩) 0 0) [] from by rw [← hZ]; exact OwnI.lit0 w2)
  have hz3 : Z < (w2.alloc (.cells #[] 3)).heap.size := by simp; omega
  generalize w2.alloc (.cells #[] 3) = w3 at *
  clear S2
  go_wp2
  go_loopg [7, 8] m (fun gm s7 s8 wr => ∃ (k : Nat) (a' : Option Addr) (c' : Nat) (l : List Int), k ≤ m ∧ gm = m - k ∧ s8 = .int .i64 k ∧ s7 = .slice a' k c' ∧ Hid (DB w wr g b (900 + 2 * k) N a m c L ∧ OwnI wr Z (.slice a' k c') l ∧ Z < wr.heap.size))
  case atStart => exact ⟨0, _, 0, [], Nat.zero_le _, rfl, rfl, rfl, hid ⟨S3.out, O3.out, hz3⟩⟩
  case round =>
    obtain ⟨k, a', c', l, hk, rfl, rfl, rfl, hh⟩ := hrel
    clear S3 O3
    obtain ⟨y0, y1⟩ := two_of hh.out.1.box
    have hltb := hh.out.1.lt
    have hlo := hh.out.1.lo
    have hHL := HLZ.out.2
    by_cases hlt : k < m
    · have hlti : (k : Int) < (m : Int) := by omega
      go_wp2_with fail
      refine (c_pick g _ 60 _ hh.out.1.cur (by omega) (by omega)).mono ?_
      rintro e w5 ⟨⟨v, rfl, d0, d1⟩, hc, hg⟩
      have S5 := hid (hh.out.1.step hc hg)
      have O5 := hid (hh.out.2.1.kept hg (ownI_ne hh.out.2.1 hHL.1))
      have hz5 : Z < w5.heap.size := by have := hg.size; have := hh.out.2.2; omega
      have hwv : IntKind.i64.wrap (v - 30) = v - 30 := IntWalk.i64_in _ (by omega)
      have hll := O5.out.len
      clear hc hg y0 y1 hltb hh
      go_wp2_with (at_builtin; refine wp_append_ints _ rfl _ _ rfl Z _ l rfl (O5.out.alloc _) _ 1 1 [v - 30] rfl (IntsAt.single _ _) (k + 1) (by simp; omega) (by omega) (by simp; omega) ?_)
      intro a2 c2 w6 hown hgrow hblk
      have hgr : w5.grownBy w6 (Value.ownBlock (.slice a' k c')) := grownBy_trans (grown_of_below (by go_grown) _) hgrow
      have S6 := hid (S5.out.row hgr (fun q e => (O5.out.lt q e).1) HLZ.out.1 ⟨hHL.1, hHL.2.1, hHL.2.2⟩)
      have O6 := hid hown
      have hz6 : Z < w6.heap.size := by have := hgr.size; omega
      clear hown hgrow hblk hgr S5 O5
      go_wp2
      go_roundg (m - (k + 1))
      case rel => exact ⟨k + 1, _, _, _, by omega, rfl, by first | rfl | go_num, rfl, hid ⟨S6.out.le (by omega), O6.out, hz6⟩⟩
      case measure => omega
    · obtain rfl : m = k := by omega
      have S7 := hid hh.out.1
      have O7 := hid hh.out.2.1
      have hz7 := hh.out.2.2
      go_upto_region 8 with fail
      refine wp_region_noPanic ?_
      refine wp_region_held_drew (S := (fun w' => w'.cell? ⟨b, 0, none⟩ = some (.int .i64 N) ∧ w'.cell? ⟨b, 1, none⟩ = some (.slice a m c))) (by kernel_rfl) (by exact ⟨y0, y1⟩) (fun hHeld => ?_)
      refine wpAnyH_take' (i := 0) (v := ?_) rfl (by kernel_rfl) (by kernel_rfl) (by kernel_rfl) (fun _ _ _ h => h) (Or.inl ⟨by rfl, ?_⟩) (by assumption) ?_
      rotate_left
      · (intro w' hSw; (try dsimp only at hSw); go_simp; all_goals with_reducible rfl)
      try simp only [Act.put, List.setIfInBounds_toArray, List.set_cons_zero, List.set_cons_succ]
      refine wpAnyH_take' (i := 1) (v := ?_) rfl (by kernel_rfl) (by kernel_rfl) (by kernel_rfl) (fun _ _ _ h => h) (Or.inl ⟨by rfl, ?_⟩) (by assumption) ?_
      rotate_left
      · (intro w' hSw; (try dsimp only at hSw); go_simp; all_goals with_reducible rfl)
      try simp only [Act.put, List.setIfInBounds_toArray, List.set_cons_zero, List.set_cons_succ]
      refine wpAnyH_take' (i := 2) (v := ?_) rfl (by kernel_rfl) (by kernel_rfl) (by kernel_rfl) (fun _ _ _ h => h) (Or.inl ⟨by rfl, ?_⟩) (by assumption) ?_
      rotate_left
      · (intro w' hSw; (try dsimp only at hSw); go_simp; all_goals with_reducible rfl)
      try simp only [Act.put, List.setIfInBounds_toArray, List.set_cons_zero, List.set_cons_succ]
      refine wpAnyH_ready (rs := [3]) (by kernel_rfl) (by simp) ?_
      refine allReadyH_cons' rfl (fun Kn hKn => ?_) AllReadyH.nil
      go_simp
      have BA8 := hid (by go_grown : Below wr.heap.size wr (wr.alloc (.cells #[.int .i64 0, .int .i64 1, .int .i64 (-1), .int .i64 5, .int .i64 100, .int .i64 8000, .int .i64 (-8001), .int .i64 8001] 3)).drew)
      have I8 := hid (IntsAt.lit' wr 3 [0, 1, -1, 5, 100, 8000, -8001, 8001] (cs := #[.int .i64 0, .int .i64 1, .int .i64 (-1), .int .i64 5, .int .i64 100, .int .i64 8000, .int .i64 (-8001), .int .i64 8001]) (b := wr.heap.size) rfl rfl)
      refine hKn.out _ _ (two_of (S7.out.below BA8.out).box) (fun hHeldN => ?_)
      clear hKn Kn hHeld
      have hHeld := hHeldN
      clear hHeldN
      try simp only [Act.put, List.setIfInBounds_toArray, List.set_cons_zero, List.set_cons_succ]
      refine wpAnyH_ready (rs := [4]) (by kernel_rfl) (by simp) ?_
      refine allReadyH_cons' rfl (fun Kn hKn => ?_) AllReadyH.nil
      go_simp
      go_at_call 91
      refine (c_among g _ wr.heap.size 8 8 [0, 1, -1, 5, 100, 8000, -8001, 8001] _ (by exact (S7.out.below BA8.out).cur) (by omega) (by exact I8.out.below (by go_grown)) (by have := S7.out.cur.lt; omega) (by omega) (by omega)).mono ?_
      rintro e w9 ⟨⟨u, rfl, -⟩, hc, hg⟩
      have S9 := hid ((S7.out.below BA8.out).step hc hg)
      have O9 := hid ((O7.out.below BA8.out).kept hg (ownI_ne O7.out hHL.1))
      have HD := hid (S9.out.put (u := .int .i64 N) (v := .slice a m c))
      have P1 := hid (OwnI.far (u := .slice a m c) (o := 1) (OwnI.far (u := .int .i64 N) (o := 0) O9.out hHL.2.2) hHL.2.2)
      clear hc hg y0 y1 S7 O7 BA8 I8
      obtain ⟨y0, y1⟩ := two_of S9.out.box
      have hlt9 := S9.out.lt
      refine hKn.out _ _ ⟨y0, y1⟩ (fun hHeldN => ?_)
      clear hKn Kn hHeld
      have hHeld := hHeldN
      clear hHeldN
      try simp only [Act.put, List.setIfInBounds_toArray, List.set_cons_zero, List.set_cons_succ]
      obtain ⟨z0, z1⟩ := two_of S9.out.res
      have fz := fun j => frozen_of_row w9 w.heap.size j _ _ S9.out.res
      refine wpAnyH_ready (rs := [5]) (by kernel_rfl) (by simp) ?_
      refine allReadyH_cons' rfl (fun Kn hKn => ?_) AllReadyH.nil
      go_simp
      refine hKn.out _ _ (two_of HD.out.box) (fun hHeldN => ?_)
      clear hKn Kn hHeld
      have hHeld := hHeldN
      clear hHeldN
      try simp only [Act.put, List.setIfInBounds_toArray, List.set_cons_zero, List.set_cons_succ]
      refine wpAnyH_take' (i := 6) (v := ?_) rfl (by kernel_rfl) (by kernel_rfl) (by kernel_rfl) (fun _ _ _ h => h) (Or.inl ⟨by rfl, ?_⟩) (by assumption) ?_
      rotate_left
      · (intro w' hSw; (try dsimp only at hSw); go_simp; all_goals with_reducible rfl)
      try simp only [Act.put, List.setIfInBounds_toArray, List.set_cons_zero, List.set_cons_succ]
      refine wpAnyH_take' (i := 7) (v := ?_) rfl (by kernel_rfl) (by kernel_rfl) (by kernel_rfl) (fun _ _ _ h => h) (Or.inl ⟨by rfl, ?_⟩) (by assumption) ?_
      rotate_left
      · (intro w' hSw; (try dsimp only at hSw); go_simp; all_goals with_reducible rfl)
      try simp only [Act.put, List.setIfInBounds_toArray, List.set_cons_zero, List.set_cons_succ]
      refine wpAnyH_done (by kernel_rfl) ?_ _
      refine NoPanic.normal ?_
      clear hHeld
      go_wp2
      refine bodyPost_ret (v := .tuple #[.agg #[.int .i64 N, .slice a m c], .slice a' m c', .int .i64 u]) (by simp [results, Try.results60, go_sem, *]) rfl ⟨N, a, m, c, L, a', m, c', l, u, rfl, OwnS.mono HD.out.own (by omega), P1.out.mono (by omega), ⟨⟨by omega, by omega⟩, by omega, by omega⟩, HD.out.bel⟩

set_option maxRecDepth 100000 in
set_option maxHeartbeats 8000000 in
theorem s_DrawLoopLoss (a0 : Option Addr) (n0 c0 : Nat) (w : World) (h : BytesAt w a0 n0) :
    Calls Try.prog 63 #[.slice a0 n0 c0] w fun e w' => ∃ (N : Int) (a : Option Addr) (m c : Nat) (L : List Pip) (a1 : Option Addr) (m1 c1 : Nat) (l1 : List Int), e = .returned (.tuple #[.agg #[.int .i64 N, .slice a m c], .slice a1 m1 c1]) ∧ OwnQ w' w.heap.size (.slice a m c) L ∧ OwnI w' w.heap.size (.slice a1 m1 c1) l1 ∧ ((0 ≤ N ∧ N ≤ 9) ∧ m ≤ 11 ∧ m1 ≤ 1001) ∧ Below w.heap.size w w' := by
  have H := hid h
  clear h
  have T0 := hid (heap_alloc_new w (.cells #[.int .i64 0, .slice none 0 0] 69))
  go_enter Try.func63, Try.ntmps63
  have B0 := hid (by go_grown : Below w.heap.size w (w.alloc (.cells #[.int .i64 0, .slice none 0 0] 69)))
  have hz0 : w.heap.size < (w.alloc (.cells #[.int .i64 0, .slice none 0 0] 69)).heap.size := by simp
  go_upto_region 1 with fail
  generalize w.alloc (.cells #[.int .i64 0, .slice none 0 0] 69) = w0 at *
  go_wp2_with fail
  refine (s_DrawTurnFlows _ _ _ _ (H.out.below B0.out)).mono ?_
  rintro e w1 ⟨N, a, m, c, L, a1, m1, c1, l1, v2, rfl, ho, ho1, ⟨⟨hN0, hN1⟩, hm, hm1⟩, hb⟩
  have R1 := hid ((hb.block w.heap.size hz0).trans T0.out)
  have B1 := hid (bstep B0.out hb)
  have hz1 := hb.size
  have Hho := hid ho
  have Hho1 := hid ho1
  clear hb T0 ho ho1
  obtain ⟨z0, z1⟩ := two_of R1.out
  have fz := fun j => frozen_of_row w1 w.heap.size j _ _ R1.out
  have hzw : w.heap.size < w1.heap.size := by omega
  go_wp2
  refine bodyPost_ret (v := .tuple #[.agg #[.int .i64 N, .slice a m c], .slice a1 m1 c1]) (by simp [results, Try.results63, go_sem, *]) rfl ⟨N, a, m, c, L, a1, m1, c1, l1, rfl, (OwnS.alloc (OwnS.far (OwnS.far Hho.out (by show w.heap.size < _; omega)) (by show w.heap.size < _; omega)) _).mono (by omega), (OwnI.alloc (OwnI.far (OwnI.far Hho1.out (by show w.heap.size < _; omega)) (by show w.heap.size < _; omega)) _).mono (by omega), ⟨⟨by omega, by omega⟩, by omega, by omega⟩, ?_⟩
  exact bstep ((B1.out.setCell (Nat.le_refl _) _).setCell (Nat.le_refl _) _) (by go_grown)

end Go.Proofs.Ytpmffboojkfpdaa

/-
  The nodes of a network that are not connected with a node without a pipe: in the reference and in the program.
-/
set_option linter.unusedVariables false
set_option linter.unusedSimpArgs false
namespace Go.Proofs.Ytpmffboojkfpdaa
open Go.RowKit

/-- The first nodes, from 1 on, at which a row is negative. -/
def neg (L : List Int) (k : Nat) : List Int := ((List.range k).filter fun v => decide (0 < v) && decide (L[v]?.getD 0 < 0)).map fun v : Nat => (v : Int)
theorem neg_yes {L : List Int} {k : Nat} (h0 : 0 < k) (h : L[k]?.getD 0 < 0) : neg L (k + 1) = neg L k ++ [(k : Int)] := by simp [neg, List.range_succ, h, h0]
theorem neg_no {L : List Int} {k : Nat} (h : ¬ (0 < k ∧ L[k]?.getD 0 < 0)) : neg L (k + 1) = neg L k := by
  have : (decide (0 < k) && decide (L[k]?.getD 0 < 0)) = false := by simpa using h
  simp [neg, List.range_succ, this]
theorem neg_len (L : List Int) (k : Nat) : (neg L k).length ≤ k := by
  unfold neg
  rw [List.length_map]
  exact Nat.le_trans (List.length_filter_le _ _) (by simp)
theorem neg_one (L : List Int) : neg L 1 = [] := by simp [neg, List.range_succ]
theorem neg_reach {M : Nat} {l : List Pip} {wo s : Int} {k : Nat} (hk : k < M) : (k : Int) + 1 ∈ reachL M l wo s ↔ ¬ (distL M l wo s)[k + 1]?.getD 0 < 0 := by
  rw [to_reached (by omega), distL_at (by omega) (by omega)]
  have e : ((k + 1 : Nat) : Int) = (k : Int) + 1 := by omega
  rw [e]
  omega


end Go.Proofs.Ytpmffboojkfpdaa

/-
  Trees, in plain lists: no more nodes are reached than there are pipes and one; without a pipe one of its ends is not reached; flows.
-/
set_option linter.unusedVariables false
set_option linter.unusedSimpArgs false
namespace Go.Proofs.Ytpmffboojkfpdaa
open Go.RowKit

theorem nodup_len : ∀ (n : Nat) (A : List Nat), A.Nodup → (∀ x ∈ A, x < n) → A.length ≤ n
  | 0, A, _, h => by
    cases A with
    | nil => simp
    | cons x r => have := h x (by simp); omega
  | n + 1, A, hA, h => by
    by_cases hn : n ∈ A
    · have := nodup_len n (A.erase n) (hA.erase n) (fun x hx => by
        rw [hA.mem_erase_iff] at hx
        have := h x hx.2
        omega)
      have := List.length_erase_of_mem hn
      omega
    · have := nodup_len n A hA (fun x hx => by
        have := h x hx
        have : x ≠ n := fun e => hn (e ▸ hx)
        omega)
      omega
theorem inj_len {A : List Int} {n : Nat} (hA : A.Nodup) (g : Int → Nat) (hg : ∀ x ∈ A, g x < n) (hi : ∀ x ∈ A, ∀ y ∈ A, g x = g y → x = y) : A.length ≤ n := by
  have := nodup_len n (A.map g) (by
    unfold List.Nodup
    rw [List.pairwise_map]
    refine List.Pairwise.imp_of_mem ?_ hA
    intro x y hx hy hne e
    exact hne (hi x hx y hy e)) (fun z hz => by
      obtain ⟨x, hx, rfl⟩ := List.mem_map.1 hz
      exact hg x hx)
  simpa using this
theorem asc_nodup {l : List Int} (h : Asc l) : l.Nodup := List.Pairwise.imp (fun h => by omega) h

theorem oth_ends {p : Pip} {u v : Int} (h : oth p u = v) (hv : 0 < v) : (u = p.2.1 ∧ v = p.2.2.1) ∨ (u = p.2.2.1 ∧ v = p.2.1) := by
  unfold oth at h
  split at h
  · left; exact ⟨by assumption, h.symm⟩
  · split at h
    · right; exact ⟨by assumption, h.symm⟩
    · omega
/-- A pipe leads to a node from one that is nearer by one. -/
def BackK (l : List Pip) (wo s v : Int) (k : Nat) : Prop := k < l.length ∧ (pp l k).1 ≠ wo ∧ ∃ u, oth (pp l k) u = v ∧ 0 < v ∧ far l wo s u = far l wo s v - 1
theorem backK_inj {l : List Pip} {wo s x y : Int} {k : Nat} (hx : BackK l wo s x k) (hy : BackK l wo s y k) : x = y := by
  obtain ⟨-, -, u, h1, h2, h3⟩ := hx
  obtain ⟨-, -, v, h4, h5, h6⟩ := hy
  rcases oth_ends h1 h2 with ⟨a, b⟩ | ⟨a, b⟩ <;> rcases oth_ends h4 h5 with ⟨c, d⟩ | ⟨c, d⟩
  · omega
  · rw [a, b] at h3; rw [c, d] at h6; omega
  · rw [a, b] at h3; rw [c, d] at h6; omega
  · omega
theorem backK_ex {N : Int} {l : List Pip} {wo s v : Int} (hg : goodNet N l = true) (h1 : 1 ≤ v) (h2 : v ≤ N) (h : 0 < far l wo s v) : ∃ k, BackK l wo s v k := by
  obtain ⟨u, ⟨k, hk, hne, ho, hv⟩, hu⟩ := (far_is (wo := wo) (s := s) hg).back v h1 h2 h
  exact ⟨k, hk, hne, u, ho, hv, hu⟩
theorem reach_count {N : Int} {l : List Pip} {s : Int} (hg : goodNet N l = true) : (reachL N l 0 s).length ≤ l.length + 1 := by
  classical
  refine inj_len (asc_nodup (asc_nonneg _ _)) (fun v => if h : ∃ k, BackK l 0 s v k then Classical.choose h else l.length) ?_ ?_
  · intro x hx
    split
    · rename_i h
      have := (Classical.choose_spec h).1
      omega
    · omega
  · intro x hx y hy he
    obtain ⟨⟨x1, x2⟩, x3⟩ := mem_reachL.1 hx
    obtain ⟨⟨y1, y2⟩, y3⟩ := mem_reachL.1 hy
    have only := (far_is (wo := 0) (s := s) hg).only
    split at he <;> split at he
    · rename_i h h'
      have a := Classical.choose_spec h
      have b := Classical.choose_spec h'
      rw [← he] at b
      exact backK_inj a b
    · rename_i h h'
      have := (Classical.choose_spec h).1
      omega
    · rename_i h h'
      have := (Classical.choose_spec h').1
      omega
    · rename_i h h'
      have ex : x = s := only x x1 x2 (by
        apply Classical.byContradiction
        intro hn
        exact h (backK_ex hg x1 x2 (by omega)))
      have ey : y = s := only y y1 y2 (by
        apply Classical.byContradiction
        intro hn
        exact h' (backK_ex hg y1 y2 (by omega)))
      omega
theorem treeB_iff {N : Int} {l : List Pip} (hg : goodNet N l = true) : treeB N l = true ↔ (l.length : Int) = N - 1 ∧ ∀ u v : Int, 1 ≤ u → u ≤ N → 1 ≤ v → v ≤ N → Conn l u v := by
  have hN := (goodNet_get hg).1
  unfold treeB
  simp only [Bool.and_eq_true, decide_eq_true_eq]
  rw [reachL_all (by omega)]
  constructor
  · rintro ⟨h1, h2⟩
    exact ⟨h1, fun u v u1 u2 v1 v2 => (Conn.symm hg (h2 u u1 u2)).trans (h2 v v1 v2)⟩
  · rintro ⟨h1, h2⟩
    exact ⟨h1, fun v v1 v2 => h2 1 v (by omega) (by omega) v1 v2⟩
/-- Where all are connected, and no way is cut by a pipe left out, all are connected without it. -/
theorem all_without {N : Int} {l : List Pip} {s : Int} {i : Nat} (hg : goodNet N l = true) (hi : i < l.length) (hs : 1 ≤ s ∧ s ≤ N) (hc : ∀ v : Int, 1 ≤ v → v ≤ N → Conn l s v)
    (he : 0 ≤ far l (pp l i).1 s (pp l i).2.1 ↔ 0 ≤ far l (pp l i).1 s (pp l i).2.2.1) (v : Int) (h1 : 1 ≤ v) (h2 : v ≤ N) : 0 ≤ far l (pp l i).1 s v := by
  have hd := far_is (wo := (pp l i).1) (s := s) hg
  refine (far_is (wo := 0) (s := s) hg).reach hg (R := fun v => 0 ≤ far l (pp l i).1 s v) (by show 0 ≤ far l (pp l i).1 s s; rw [far_self hg]; omega) ?_ (far l 0 s v).toNat v h1 h2 (by have : 0 ≤ far l 0 s v := hc v h1 h2; omega)
  rintro u x ⟨k, hk, -, ho, hx⟩ hu
  by_cases e : (pp l k).1 = (pp l i).1
  · have hki : k = i := by
      apply Classical.byContradiction
      intro hn
      by_cases h : k < i
      · have := ids_rise hg i k hi h; omega
      · have := ids_rise hg k i hk (by omega); omega
    subst hki
    rcases oth_ends ho hx with ⟨a, b⟩ | ⟨a, b⟩
    · rw [a] at hu; rw [b]; exact he.1 hu
    · rw [a] at hu; rw [b]; exact he.2 hu
  · exact (hd.step u x ⟨k, hk, e, ho, hx⟩ hu).1
/-- In a tree, without a pipe, one of its ends is reached, the other one is not. -/
theorem tree_bridge {N : Int} {l : List Pip} {s : Int} {i : Nat} (hg : goodNet N l = true) (ht : treeB N l = true) (hs : 1 ≤ s ∧ s ≤ N) (hi : i < l.length) : 0 ≤ far l (pp l i).1 s (pp l i).2.1 ↔ ¬ 0 ≤ far l (pp l i).1 s (pp l i).2.2.1 := by
  obtain ⟨h1, h2⟩ := (treeB_iff hg).1 ht
  have key : ¬ (0 ≤ far l (pp l i).1 s (pp l i).2.1 ↔ 0 ≤ far l (pp l i).1 s (pp l i).2.2.1) := by
    intro he
    have hall := all_without hg hi hs (fun v v1 v2 => h2 s v hs.1 hs.2 v1 v2) he
    have hg' := goodNet_sub (List.eraseIdx_sublist l i) hg
    have hN := (goodNet_get hg).1
    have := (reachL_all (l := l.eraseIdx i) (s := s) (N := N) (by omega)).2 (fun v v1 v2 => by
      unfold Conn
      rw [far_without hg hi]
      exact hall v v1 v2)
    have hcnt := reach_count (s := s) hg'
    rw [List.length_eraseIdx_of_lt hi] at hcnt
    omega
  constructor
  · intro a b
    exact key ⟨fun _ => b, fun _ => a⟩
  · intro a
    apply Classical.byContradiction
    intro b
    exact key ⟨fun h => absurd h b, fun h => absurd h a⟩

/-- The demands of the first nodes that are not reached. -/
def dsum (D ds : List Int) : Nat → Int
  | 0 => 0
  | k + 1 => if D[k + 1]?.getD 0 < 0 then dsum D ds k + ds[k]?.getD 0 else dsum D ds k
theorem dsum_yes {D ds : List Int} {k : Nat} (h : D[k + 1]?.getD 0 < 0) : dsum D ds (k + 1) = dsum D ds k + ds[k]?.getD 0 := by simp [dsum, h]
theorem dsum_no {D ds : List Int} {k : Nat} (h : ¬ D[k + 1]?.getD 0 < 0) : dsum D ds (k + 1) = dsum D ds k := by simp [dsum, h]
theorem dsum_fit {D ds : List Int} (h : ∀ x ∈ ds, 0 ≤ x ∧ x ≤ 1000) : ∀ k, k ≤ ds.length → 0 ≤ dsum D ds k ∧ dsum D ds k ≤ 1000 * (k : Int)
  | 0, _ => by simp [dsum]
  | k + 1, hk => by
    have ih := dsum_fit (D := D) h k (by omega)
    have hx := h _ (getD_mem ds k (by omega))
    by_cases hp : D[k + 1]?.getD 0 < 0
    · rw [dsum_yes hp]; omega
    · rw [dsum_no hp]; omega
/-- The demands of nodes. -/
def nsum (ds L : List Int) (k : Nat) : Int := ((L.take k).map fun v => ds[v.toNat - 1]?.getD 0).sum
theorem nsum_succ {ds L : List Int} {k : Nat} (h : k < L.length) : nsum ds L (k + 1) = nsum ds L k + ds[(L[k]?.getD 0).toNat - 1]?.getD 0 := by
  unfold nsum
  rw [take_succ' L k h]
  simp
theorem neg_dsum (D ds : List Int) : ∀ k, ((neg D (k + 1)).map fun v => ds[v.toNat - 1]?.getD 0).sum = dsum D ds k
  | 0 => by simp [neg_one, dsum]
  | k + 1 => by
    have ih := neg_dsum D ds k
    by_cases h : D[k + 1]?.getD 0 < 0
    · rw [neg_yes (k := k + 1) (by omega) h, List.map_append, List.sum_append, ih, dsum_yes h]
      simp
    · rw [neg_no (k := k + 1) (fun e => h e.2), ih, dsum_no h]
theorem nsum_all (D ds : List Int) (M : Nat) : nsum ds (neg D (M + 1)) (neg D (M + 1)).length = dsum D ds M := by
  unfold nsum
  rw [List.take_of_length_le (Nat.le_refl _), neg_dsum]
theorem mem_neg {D : List Int} {k : Nat} {x : Int} : x ∈ neg D k ↔ ∃ v : Nat, v < k ∧ x = v ∧ 0 < v ∧ D[v]?.getD 0 < 0 := by
  unfold neg
  simp only [List.mem_map, List.mem_filter, List.mem_range, Bool.and_eq_true, decide_eq_true_eq]
  constructor
  · rintro ⟨v, ⟨h1, h2, h3⟩, rfl⟩; exact ⟨v, h1, rfl, h2, h3⟩
  · rintro ⟨v, h1, rfl, h2, h3⟩; exact ⟨v, ⟨h1, h2, h3⟩, rfl⟩
theorem nsum_fit {ds L : List Int} (h : ∀ x ∈ ds, 0 ≤ x ∧ x ≤ 1000) : ∀ k, k ≤ L.length → (0 ≤ nsum ds L k ∧ nsum ds L k ≤ 1000 * (k : Int))
  | 0, _ => by simp [nsum]
  | k + 1, hk => by
    have ih := nsum_fit (ds := ds) (L := L) h k (by omega)
    rw [nsum_succ (by omega)]
    by_cases hl : (L[k]?.getD 0).toNat - 1 < ds.length
    · have hx := h _ (getD_mem ds _ hl)
      omega
    · rw [List.getElem?_eq_none (by omega)]
      simp
      omega

/-- The flow through a pipe of a tree. -/
noncomputable def tflow (M : Nat) (l : List Pip) (s : Int) (ds : List Int) (i : Nat) : Int :=
  if (distL M l (pp l i).1 s)[(pp l i).2.2.1.toNat]?.getD 0 < 0 then dsum (distL M l (pp l i).1 s) ds M else -(dsum (distL M l (pp l i).1 s) ds M)
noncomputable def tflows (M : Nat) (l : List Pip) (s : Int) (ds : List Int) (k : Nat) : List Int := (List.range k).map (tflow M l s ds)
theorem tflows_succ (M : Nat) (l : List Pip) (s : Int) (ds : List Int) (k : Nat) : tflows M l s ds (k + 1) = tflows M l s ds k ++ [tflow M l s ds k] := by simp [tflows, List.range_succ]
theorem tflows_len (M : Nat) (l : List Pip) (s : Int) (ds : List Int) (k : Nat) : (tflows M l s ds k).length = k := by simp [tflows]
/-- In a tree the end from which a pipe leads is not reached just where the other one is. -/
theorem tree_from {M : Nat} {l : List Pip} {s : Int} {i : Nat} (hg : goodNet M l = true) (ht : treeB M l = true) (hs : 1 ≤ s ∧ s ≤ M) (hi : i < l.length) : (pp l i).2.1 ∈ neg (distL M l (pp l i).1 s) (M + 1) ↔ ¬ (distL M l (pp l i).1 s)[(pp l i).2.2.1.toNat]?.getD 0 < 0 := by
  obtain ⟨-, p1, p2, -, -⟩ := goodNet_pipe hg hi
  have hb := tree_bridge hg ht hs hi
  rw [distL_at (by omega) (by omega), show (((pp l i).2.2.1.toNat : Nat) : Int) = (pp l i).2.2.1 by omega, mem_neg]
  constructor
  · rintro ⟨v, h1, h2, h3, h4⟩
    rw [distL_at (by omega) (by omega), ← h2] at h4
    apply Classical.byContradiction
    intro h5
    have h6 : far l (pp l i).1 s (pp l i).2.2.1 < 0 := by omega
    have := hb.2 (by omega)
    omega
  · intro h
    refine ⟨(pp l i).2.1.toNat, by omega, by omega, by omega, ?_⟩
    rw [distL_at (by omega) (by omega), show (((pp l i).2.1.toNat : Nat) : Int) = (pp l i).2.1 by omega]
    apply Classical.byContradiction
    intro h5
    exact hb.1 (by omega) (by omega)

end Go.Proofs.Ytpmffboojkfpdaa

/-
  Demands and flows: which are valid.
-/
set_option linter.unusedVariables false
set_option linter.unusedSimpArgs false
namespace Go.Proofs.Ytpmffboojkfpdaa
open Go.RowKit

theorem any_in {l : List Int} {lo hi : Int} : (l.any fun x => !inR x lo hi) = false ↔ ∀ x ∈ l, lo ≤ x ∧ x ≤ hi := by
  rw [List.any_eq_false]
  constructor
  · intro h x hx
    have := h x hx
    simp only [Bool.not_eq_true, Bool.not_eq_false'] at this
    exact inR_iff.1 this
  · intro h x hx
    simp [inR_iff.2 (h x hx)]
def goodDem (N : Int) (l : List Int) : Bool := decide ((l.length : Int) = N) && !l.any (fun x => !inR x 0 1000)
def goodFl (n : Nat) (l : List Int) : Bool := decide (l.length = n) && !l.any (fun x => !inR x (-8000) 8000)
theorem goodDem_iff {N : Int} {l : List Int} : goodDem N l = true ↔ (l.length : Int) = N ∧ ∀ x ∈ l, 0 ≤ x ∧ x ≤ 1000 := by simp only [goodDem, Bool.and_eq_true, decide_eq_true_eq, Bool.not_eq_true', any_in]
theorem goodFl_iff {n : Nat} {l : List Int} : goodFl n l = true ↔ l.length = n ∧ ∀ x ∈ l, -8000 ≤ x ∧ x ≤ 8000 := by simp only [goodFl, Bool.and_eq_true, decide_eq_true_eq, Bool.not_eq_true', any_in]


theorem enters_i_areFlows : enters 123 := by intro args w; kernel_rfl
theorem i_areFlows1 (x : Int) (w : World) : Calls Try.prog 123 #[.int .i64 x] w fun e w' => e = .returned (.bool (!inR x (-8000) 8000)) ∧ Below w.heap.size w w' := by
  go_enter Try.func123, Try.ntmps123
  go_wp2_with fail
  refine (i_inside _ _ _ _).mono ?_
  rintro e w' ⟨rfl, rfl⟩
  go_wp2
  go_ret
  exact ⟨rfl, by go_grown⟩
theorem i_areFlows (N : Int) (a b : Option Addr) (n c m d : Nat) (l : List Int) (w : World) (h : IntsAt w b m l) (hm : m ≤ 1048576) :
    Calls Try.prog 101 #[.agg #[.int .i64 N, .slice a n c], .slice b m d] w fun e w' => e = .returned (.bool (goodFl n l)) ∧ Below w.heap.size w w' := by
  have hl := h.1
  have H := hid h
  clear h
  by_cases h1 : m = n
  · have E := hid (show (!l.any (fun x => !inR x (-8000) 8000)) = goodFl n l by simp [goodDem, goodFl, hl, h1])
    clear hl
    subst h1
    go_enter Try.func101, Try.ntmps101
    go_wp2_with fail
    refine (f_ContainsFunc 123 #[] (fun x => !inR x (-8000) 8000) enters_i_areFlows b m d l _ (H.out.below (by go_grown)) (by omega) (fun x w' _ _ => i_areFlows1 x w')).mono ?_
    rintro e w1 ⟨rfl, hb1⟩
    go_wp2
    go_ret
    exact ⟨ret_bool E.out, bstep (by go_grown) hb1⟩
  · have E := hid (show false = goodFl n l by simp [goodDem, goodFl, hl, h1])
    go_enter Try.func101, Try.ntmps101
    go_wp2
    go_ret
    exact ⟨ret_bool E.out, by go_grown⟩

set_option maxHeartbeats 1000000 in
theorem s_l8Flows (N : Int) (a b : Option Addr) (n c m d : Nat) (l : List Int) (w : World) (h : IntsAt w b m l) (hm : m ≤ 1048576) :
    Calls Try.prog 106 #[.agg #[.int .i64 N, .slice a n c], .slice b m d] w fun e w' => e = .returned (.bool (goodFl n l)) ∧ Below w.heap.size w w' := by
  have H := hid h
  have HL := hid h.1
  clear h
  go_enter Try.func106, Try.ntmps106
  go_wp2
  go_loopg [5] m (fun g i wr => ∃ k : Nat, k ≤ m ∧ g = m - k ∧ i = .int .i64 k ∧ wr = w.alloc (.cells #[.int .i64 N, .slice a n c] 69) ∧ Hid (∀ x ∈ l.take k, (-8000) ≤ x ∧ x ≤ 8000))
  case atStart => exact ⟨0, Nat.zero_le _, rfl, rfl, rfl, hid (fun x hx => by simp at hx)⟩
  case round =>
    obtain ⟨k, hk, rfl, rfl, rfl, hh⟩ := hrel
    by_cases hlt : k < m
    · obtain ⟨b1, off, rfl, hbw, hcell⟩ := (H.out.below ((Below.refl _ _).alloc (Nat.le_refl _) (.cells #[.int .i64 N, .slice a n c] 69))).2 k hlt
      cases hx : inR (l[k]?.getD 0) (-8000) 8000
      · have HX := hid hx
        clear hx
        go_wp2_with fail
        refine (s_l1In _ _ _ _).mono ?_
        rintro e _ ⟨rfl, rfl⟩
        rw [HX.out]
        go_wp2
        go_ret
        refine ⟨ret_bool ?_, by go_grown⟩
        have : goodFl n l ≠ true := fun e => by
          simp only [goodDem, goodFl, Bool.and_eq_true, Bool.not_eq_true', any_in] at e
          have h2 := e.2 _ (getD_mem' (k := k) (by have := HL.out; omega))
          rw [inR_iff.2 h2] at HX
          exact absurd HX.out (by simp)
        simpa using this.symm
      · have HX := hid hx
        have hx2 := inR_iff.1 hx
        clear hx
        go_wp2_with fail
        refine (s_l1In _ _ _ _).mono ?_
        rintro e _ ⟨rfl, rfl⟩
        rw [HX.out]
        go_wp2
        go_roundg (m - (k + 1))
        case rel =>
          refine ⟨k + 1, by omega, rfl, by go_num, rfl, hid ?_⟩
          intro x hx
          rw [take_succ' l k (by have := HL.out; omega), List.mem_append, List.mem_singleton] at hx
          rcases hx with hx | rfl
          · exact hh.out x hx
          · exact hx2
        case measure => omega
    · obtain rfl : m = k := by omega
      have hall : l.take m = l := List.take_of_length_le (by have := HL.out; omega)
      have ha : ∀ x ∈ l, (-8000) ≤ x ∧ x ≤ 8000 := hall ▸ hh.out
      have hl := HL.out
      by_cases h1 : m = n
      · have E := hid (show true = goodFl n l by first | exact (goodDem_iff.2 ⟨by omega, ha⟩).symm | exact (goodFl_iff.2 ⟨by omega, ha⟩).symm)
        clear hall ha hl
        go_wp2
        go_ret
        exact ⟨ret_bool (by first | exact E.out | (rw [← E.out]; simp; omega)), by go_grown⟩
      · have E := hid (show false = goodFl n l by first | exact (Bool.eq_false_iff.2 fun e => h1 (by have := (goodDem_iff.1 e).1; omega)).symm | exact (Bool.eq_false_iff.2 fun e => h1 (by have := (goodFl_iff.1 e).1; omega)).symm)
        clear hall ha hl
        go_wp2
        go_ret
        exact ⟨ret_bool (by first | exact E.out | (rw [← E.out]; simp; omega)), by go_grown⟩

end Go.Proofs.Ytpmffboojkfpdaa

/-
  Networks: supply, energy.
-/
set_option linter.unusedVariables false
set_option linter.unusedSimpArgs false
namespace Go.Proofs.Ytpmffboojkfpdaa
open Go.RowKit


/-- What SupplyOf returns. -/
def supply (N : Int) (l : List Pip) (ds : List Int) : Int × Bool := if goodNet N l = true ∧ goodDem N ds = true then (ds.sum, true) else (0, false)

theorem s_l8Abs (x : Int) (w : World) (h : -4611686018427387904 ≤ x ∧ x ≤ 4611686018427387904) : Calls Try.prog 132 #[.int .i64 x] w fun e w' => e = .returned (.int .i64 (max x (-x))) ∧ w = w' := by
  go_enter Try.func132, Try.ntmps132
  go_wp2_with fail
  refine (s_l1Most _ _ _).mono ?_
  rintro e _ ⟨rfl, rfl⟩
  go_wp2
  go_ret
  exact ⟨rfl, rfl⟩

/-- The energy of flows. -/
def enrg (l : List Pip) (fs : List Int) (k : Nat) : Int := ((List.range k).map fun j => (pp l j).2.2.2 * max (fs[j]?.getD 0) (-(fs[j]?.getD 0)) * fs[j]?.getD 0 * fs[j]?.getD 0).sum
theorem enrg_succ (l : List Pip) (fs : List Int) (k : Nat) : enrg l fs (k + 1) = enrg l fs k + (pp l k).2.2.2 * max (fs[k]?.getD 0) (-(fs[k]?.getD 0)) * fs[k]?.getD 0 * fs[k]?.getD 0 := by simp [enrg, List.range_succ]
theorem enrg_fit {s q : Int} (hs : 1 ≤ s ∧ s ≤ 9) (hq : -2000 ≤ q ∧ q ≤ 2000) : (0 ≤ s * max q (-q) ∧ s * max q (-q) ≤ 18000) ∧ (-36000000 ≤ s * max q (-q) * q ∧ s * max q (-q) * q ≤ 36000000) ∧ (-72000000000 ≤ s * max q (-q) * q * q ∧ s * max q (-q) * q * q ≤ 72000000000) := by
  have hm : 0 ≤ max q (-q) ∧ max q (-q) ≤ 2000 := by omega
  have a1 := mul_in (x := s) (y := max q (-q)) (A := 9) (B := 2000) (by omega) (by omega)
  have a2 := Int.mul_nonneg (a := s) (b := max q (-q)) (by omega) (by omega)
  simp only [Int.reduceMul] at a1
  have b1 := mul_in (x := s * max q (-q)) (y := q) (A := 18000) (B := 2000) (by omega) (by omega)
  simp only [Int.reduceMul] at b1
  have c1 := mul_in (x := s * max q (-q) * q) (y := q) (A := 36000000) (B := 2000) (by omega) (by omega)
  simp only [Int.reduceMul] at c1
  exact ⟨⟨a2, by omega⟩, by omega, by omega⟩

end Go.Proofs.Ytpmffboojkfpdaa

/-
  Networks: a pipe found by its Id, the loss of a pipe.
-/
set_option linter.unusedVariables false
set_option linter.unusedSimpArgs false
namespace Go.Proofs.Ytpmffboojkfpdaa
open Go.RowKit

/-- The index of the pipe with an Id, -1 if there is none. -/
def findQ (l : List Pip) (id : Int) : Int := match l.findIdx? (fun p => decide (p.1 = id)) with | some i => (i : Int) | none => -1
theorem findQ_hit {l : List Pip} {id : Int} {k : Nat} (hk : k < l.length) (hp : (pp l k).1 = id) (hm : ∀ j, j < k → (pp l j).1 ≠ id) : findQ l id = k := by
  unfold findQ
  have : l.findIdx? (fun p => decide (p.1 = id)) = some k := by
    rw [List.findIdx?_eq_some_iff_getElem]
    refine ⟨hk, by unfold pp at hp; rw [List.getElem?_eq_getElem hk] at hp; simpa using hp, fun j hj => ?_⟩
    have := hm j hj
    unfold pp at this
    rw [List.getElem?_eq_getElem (by omega)] at this
    simpa using this
  rw [this]
theorem findQ_miss {l : List Pip} {id : Int} (hm : ∀ j, j < l.length → (pp l j).1 ≠ id) : findQ l id = -1 := by
  unfold findQ
  have : l.findIdx? (fun p => decide (p.1 = id)) = none := by
    rw [List.findIdx?_eq_none_iff]
    intro x hx
    obtain ⟨j, hj, rfl⟩ := List.mem_iff_getElem.1 hx
    have := hm j hj
    unfold pp at this
    rw [List.getElem?_eq_getElem hj] at this
    simpa using this
  rw [this]
theorem findQ_cases (l : List Pip) (id : Int) : findQ l id = -1 ∨ ∃ k : Nat, k < l.length ∧ findQ l id = k := by
  unfold findQ
  cases h : l.findIdx? (fun p => decide (p.1 = id)) with
  | none => exact .inl rfl
  | some i =>
    obtain ⟨h1, -, -⟩ := List.findIdx?_eq_some_iff_getElem.1 h
    exact .inr ⟨i, h1, rfl⟩

set_option maxHeartbeats 1000000 in
theorem s_l2Find (N id : Int) (a : Option Addr) (n c : Nat) (l : List Pip) (w : World) (h : QAt w a n l) (hn : n ≤ 1048576) :
    Calls Try.prog 130 #[.agg #[.int .i64 N, .slice a n c], .int .i64 id] w fun e w' => e = .returned (.int .i64 (findQ l id)) ∧ Below w.heap.size w w' := by
  have H := hid h
  have HL := hid h.1
  clear h
  go_enter Try.func130, Try.ntmps130
  go_wp2
  go_loopg [5] n (fun g i wr => ∃ k : Nat, k ≤ n ∧ g = n - k ∧ i = .int .i64 k ∧ wr = w.alloc (.cells #[.int .i64 N, .slice a n c] 69) ∧ Hid (∀ j, j < k → (pp l j).1 ≠ id))
  case atStart => exact ⟨0, Nat.zero_le _, rfl, rfl, rfl, hid (fun j hj => absurd hj (by omega))⟩
  case round =>
    obtain ⟨k, hk, rfl, rfl, rfl, hh⟩ := hrel
    by_cases hlt : k < n
    · obtain ⟨b0, off0, rfl, hbw, x0, x1, x2, x3⟩ := QAt.get (H.out.below ((Below.refl _ _).alloc (Nat.le_refl _) (.cells #[.int .i64 N, .slice a n c] 69))) k hlt
      by_cases hp : (pp l k).1 = id
      · have E := hid (findQ_hit (by have := HL.out; omega) hp hh.out)
        go_wp2
        go_ret
        exact ⟨ret_int E.out.symm, by go_grown⟩
      · go_wp2
        go_roundg (n - (k + 1))
        case rel =>
          refine ⟨k + 1, by omega, rfl, by go_num, rfl, hid (fun j hj => ?_)⟩
          by_cases e : j = k
          · subst e; exact hp
          · exact hh.out j (by omega)
        case measure => omega
    · obtain rfl : n = k := by omega
      have E := hid (findQ_miss (l := l) (id := id) (fun j hj => hh.out j (by have := HL.out; omega)))
      go_wp2
      go_ret
      exact ⟨ret_int E.out.symm, by go_grown⟩




theorem last_newL (W : World) (x : Obj) (g : Nat) (hg : g = W.heap.size) : (W.alloc x).heap[g]? = some x := by
  subst hg
  exact heap_alloc_new _ _

/-- The loss of the pipe at an index. -/
def loss (l : List Pip) (fs : List Int) (k : Nat) : Int := (pp l k).2.2.2 * fs[k]?.getD 0 * max (fs[k]?.getD 0) (-(fs[k]?.getD 0))
theorem loss_fit {s q : Int} (hs : 1 ≤ s ∧ s ≤ 9) (hq : -8000 ≤ q ∧ q ≤ 8000) : (-72000 ≤ s * q ∧ s * q ≤ 72000) ∧ (-576000000 ≤ s * q * max q (-q) ∧ s * q * max q (-q) ≤ 576000000) := by
  have hm : 0 ≤ max q (-q) ∧ max q (-q) ≤ 8000 := by omega
  have a1 := mul_in (x := s) (y := q) (A := 9) (B := 8000) (by omega) (by omega)
  simp only [Int.reduceMul] at a1
  have b1 := mul_in (x := s * q) (y := max q (-q)) (A := 72000) (B := 8000) (by omega) (by omega)
  simp only [Int.reduceMul] at b1
  exact ⟨a1, b1⟩

set_option maxRecDepth 100000 in
set_option maxHeartbeats 2000000 in
theorem s_l9Loss (p0 p1 p2 s q : Int) (w : World) (hs : 1 ≤ s ∧ s ≤ 9) (hq : -8000 ≤ q ∧ q ≤ 8000) :
    Calls Try.prog 110 #[.agg #[.int .i64 p0, .int .i64 p1, .int .i64 p2, .int .i64 s], .int .i64 q] w fun e w' => e = .returned (.int .i64 (s * q * max q (-q))) ∧ Below w.heap.size w w' := by
  obtain ⟨f1, f2⟩ := loss_fit hs hq
  have hw1 := IntWalk.i64_in (s * q) (by omega)
  have hw2 := IntWalk.i64_in (s * q * max q (-q)) (by omega)
  go_enter Try.func110, Try.ntmps110
  go_upto_region 1 with fail
  have X := hid (show Below w.heap.size w (w.alloc (.cells #[.int .i64 p0, .int .i64 p1, .int .i64 p2, .int .i64 s] 99)).drew ∧ (w.alloc (.cells #[.int .i64 p0, .int .i64 p1, .int .i64 p2, .int .i64 s] 99)).drew.cell? ⟨w.heap.size, 3, none⟩ = some (.int .i64 s) from ⟨((Below.refl _ _).alloc (Nat.le_refl _) _).drew, cell_of_row _ _ 3 _ _ (0, 0) (heap_alloc_new _ _)⟩)
  refine wp_region_calm (C := (fun w' => Below w.heap.size w w' ∧ w'.cell? ⟨w.heap.size, 3, none⟩ = some (.int .i64 s))) (by kernel_rfl) (by kernel_rfl) (X.out) ?_
  repeat
    first
      | go_big_quiet_skip
      | (go_big_quiet_want
         first
           | (unfold Oper.quiet
              apply Exists.intro
              refine ⟨fun wq hq => ?_, ?_⟩
              · (try dsimp only at hq
                 simp [go_sem, Oper.quietAt, Oper.quietUpon, BigFrame.eval_const, BigFrame.eval_global, BigFrame.eval_func, ↓IntWalk.iteOmega, *]
                 first | done | rfl | (refine calm_same hq (s_l8Abs _ _ (by omega)) rfl))
              simp only [Act.put, List.setIfInBounds_toArray, List.set_cons_succ, List.set_cons_zero]
              go_big_quiet_on))
  refine wpQuiet_nil ?_
  intro wc hcalm
  try dsimp only at hcalm
  have HC := hid hcalm.1
  clear hcalm hw1 hw2
  go_wp2
  go_ret
  exact ⟨rfl, HC.out⟩

set_option maxRecDepth 100000 in
set_option maxHeartbeats 2000000 in
theorem i_lossOf (N : Int) (a b : Option Addr) (n c d k : Nat) (l : List Pip) (fs : List Int) (w : World) (h : QAt w a n l) (h' : IntsAt w b n fs) (hg : goodNet N l = true) (hf : goodFl n fs = true) (hk : k < n) :
    Calls Try.prog 109 #[.agg #[.int .i64 N, .slice a n c], .slice b n d, .int .i64 k] w fun e w' => e = .returned (.int .i64 (loss l fs k)) ∧ Below w.heap.size w w' := by
  have hp := (goodNet_pipe hg (k := k) (by have := h.1; omega)).2.2.2.2
  have hq := (goodFl_iff.1 hf).2 _ (getD_mem' (k := k) (by have := h'.1; omega))
  obtain ⟨f1, f2⟩ := loss_fit hp hq
  have hn : n ≤ 10 := by have := (goodNet_get hg).2.1; have := h.1; omega
  have hw1 := IntWalk.i64_in ((pp l k).2.2.2 * fs[k]?.getD 0) (by omega)
  have hw2 := IntWalk.i64_in ((pp l k).2.2.2 * fs[k]?.getD 0 * max (fs[k]?.getD 0) (-(fs[k]?.getD 0))) (by omega)
  obtain ⟨b0, off0, rfl, hbw, x0, x1, x2, x3⟩ := QAt.get h k hk
  obtain ⟨b1, off1, rfl, hbw1, hcell⟩ := h'.2 k hk
  clear h h' hg hf
  go_enter Try.func109, Try.ntmps109
  go_upto_region 1 with fail
  have X := hid (show Below w.heap.size w (w.alloc (.cells #[.int .i64 N, .slice (some ⟨b0, off0, none⟩) n c] 69)).drew ∧ (w.alloc (.cells #[.int .i64 N, .slice (some ⟨b0, off0, none⟩) n c] 69)).drew.cell? ⟨w.heap.size, 1, none⟩ = some (.slice (some ⟨b0, off0, none⟩) n c) ∧ (w.alloc (.cells #[.int .i64 N, .slice (some ⟨b0, off0, none⟩) n c] 69)).drew.cell? ⟨b0, off0 + k * 4 + 3, none⟩ = some (.int .i64 (pp l k).2.2.2) ∧ (w.alloc (.cells #[.int .i64 N, .slice (some ⟨b0, off0, none⟩) n c] 69)).drew.cell? ⟨b1, off1 + k, none⟩ = some (.int .i64 (fs[k]?.getD 0)) from ⟨((Below.refl _ _).alloc (Nat.le_refl _) _).drew, cell_of_row _ _ 1 _ _ (0, 0) (heap_alloc_new _ _), ((bcell ((Below.refl w.heap.size w).alloc (Nat.le_refl _) _)).1 _ _ (by omega)).trans x3, ((bcell ((Below.refl w.heap.size w).alloc (Nat.le_refl _) _)).1 _ _ (by omega)).trans hcell⟩)
  clear x0 x1 x2 x3 hcell
  refine wp_region_calm (C := (fun w' => Below w.heap.size w w' ∧ w'.cell? ⟨w.heap.size, 1, none⟩ = some (.slice (some ⟨b0, off0, none⟩) n c) ∧ w'.cell? ⟨b0, off0 + k * 4 + 3, none⟩ = some (.int .i64 (pp l k).2.2.2) ∧ w'.cell? ⟨b1, off1 + k, none⟩ = some (.int .i64 (fs[k]?.getD 0)))) (by kernel_rfl) (by kernel_rfl) (X.out) ?_
  repeat
    first
      | go_big_quiet_skip
      | (go_big_quiet_want
         first
           | (unfold Oper.quiet
              apply Exists.intro
              refine ⟨fun wq hq => ?_, ?_⟩
              · (try dsimp only at hq
                 simp [go_sem, Oper.quietAt, Oper.quietUpon, BigFrame.eval_const, BigFrame.eval_global, BigFrame.eval_func, ↓IntWalk.iteOmega, *]
                 first | done | rfl | (refine calm_same hq (i_absOf _ _ (by omega)) rfl))
              simp only [Act.put, List.setIfInBounds_toArray, List.set_cons_succ, List.set_cons_zero]
              go_big_quiet_on))
  refine wpQuiet_nil ?_
  intro wc hcalm
  try dsimp only at hcalm
  have HC := hid hcalm.1
  clear hcalm hw1 hw2
  go_wp2
  go_ret
  exact ⟨rfl, HC.out⟩

/-- What LossOf returns. -/
def lossR (N : Int) (l : List Pip) (fs : List Int) (id : Int) : Int × Bool := if goodNet N l = true ∧ goodFl l.length fs = true ∧ 0 ≤ findQ l id then (loss l fs (findQ l id).toNat, true) else (0, false)

end Go.Proofs.Ytpmffboojkfpdaa

/-
  Shortest ways, in plain lists: the first pipe that leads nearer, node by node.
-/
set_option linter.unusedVariables false
set_option linter.unusedSimpArgs false
namespace Go.Proofs.Ytpmffboojkfpdaa
open Go.RowKit

theorem far_chain {N : Int} {l : List Pip} {wo s : Int} (hg : goodNet N l = true) (hs : 1 ≤ s ∧ s ≤ N) : ∀ (d : Nat) (v : Int), 1 ≤ v → v ≤ N → far l wo s v = d → ∀ j : Nat, j ≤ d → ∃ u : Int, (1 ≤ u ∧ u ≤ N) ∧ far l wo s u = j
  | 0, v, h1, h2, h, j, hj => ⟨v, ⟨h1, h2⟩, by omega⟩
  | d + 1, v, h1, h2, h, j, hj => by
    by_cases e : j = d + 1
    · exact ⟨v, ⟨h1, h2⟩, by omega⟩
    · obtain ⟨u, he, hu⟩ := (far_is (wo := wo) (s := s) hg).back v h1 h2 (by omega)
      obtain ⟨⟨u1, u2⟩, -, -⟩ := he.ends hg
      exact far_chain hg hs d u u1 u2 (by omega) j (by omega)
theorem far_lt {N : Int} {l : List Pip} {wo s v : Int} (hg : goodNet N l = true) (hs : 1 ≤ s ∧ s ≤ N) (h1 : 1 ≤ v) (h2 : v ≤ N) : far l wo s v < N := by
  classical
  by_cases h0 : 0 ≤ far l wo s v
  · obtain ⟨d, hd⟩ : ∃ d : Nat, far l wo s v = d := ⟨(far l wo s v).toNat, by omega⟩
    have hch := far_chain hg hs d v h1 h2 hd
    have key := inj_len (A := (List.range (d + 1)).map fun j => if h : j ≤ d then Classical.choose (hch j h) else 0) (n := N.toNat) (by
      unfold List.Nodup
      rw [List.pairwise_map]
      refine List.Pairwise.imp_of_mem ?_ List.nodup_range
      intro i j hi hj hne e
      rw [List.mem_range] at hi hj
      rw [dif_pos (by omega), dif_pos (by omega)] at e
      have a := (Classical.choose_spec (hch i (by omega))).2
      have b := (Classical.choose_spec (hch j (by omega))).2
      rw [e] at a
      omega) (fun u => u.toNat - 1) (fun x hx => by
      obtain ⟨j, hj, rfl⟩ := List.mem_map.1 hx
      rw [List.mem_range] at hj
      rw [dif_pos (by omega)]
      have := (Classical.choose_spec (hch j (by omega))).1
      omega) (fun x hx y hy e => by
      obtain ⟨i, hi, rfl⟩ := List.mem_map.1 hx
      obtain ⟨j, hj, rfl⟩ := List.mem_map.1 hy
      rw [List.mem_range] at hi hj
      have a := (Classical.choose_spec (hch i (by omega))).1
      have b := (Classical.choose_spec (hch j (by omega))).1
      simp only [dif_pos (show i ≤ d by omega), dif_pos (show j ≤ d by omega)] at e ⊢
      omega)
    simp only [List.length_map, List.length_range] at key
    omega
  · omega

/-- A pipe leads from a node to one that is nearer by one. -/
def stepB (l : List Pip) (f : Int → Int) (v : Int) (k : Nat) : Bool := decide (0 < oth (pp l k) v) && decide (f (oth (pp l k) v) = f v - 1)
def firstK (l : List Pip) (f : Int → Int) (v : Int) : Nat := (List.range l.length).findIdx (stepB l f v)
theorem firstK_hit {l : List Pip} {f : Int → Int} {v : Int} {k : Nat} (hk : k < l.length) (h : stepB l f v k = true) (hm : ∀ j, j < k → stepB l f v j = false) : firstK l f v = k := by
  unfold firstK
  rw [List.findIdx_eq (by simpa using hk)]
  refine ⟨by simpa using h, fun j hj => by simpa using hm j hj⟩
theorem firstK_ok {l : List Pip} {f : Int → Int} {v : Int} (h : ∃ k, k < l.length ∧ stepB l f v k = true) : firstK l f v < l.length ∧ stepB l f v (firstK l f v) = true ∧ ∀ j, j < firstK l f v → stepB l f v j = false := by
  obtain ⟨m, ⟨hm, hs⟩, hl⟩ := least h
  have e := firstK_hit hm hs (fun j hj => by
    cases e : stepB l f v j
    · rfl
    · exact absurd ⟨by omega, e⟩ (hl j hj))
  rw [e]
  refine ⟨hm, hs, fun j hj => ?_⟩
  cases e2 : stepB l f v j
  · rfl
  · exact absurd ⟨by omega, e2⟩ (hl j hj)
theorem stepB_iff {l : List Pip} {f : Int → Int} {v : Int} {k : Nat} : stepB l f v k = true ↔ 0 < oth (pp l k) v ∧ f (oth (pp l k) v) = f v - 1 := by simp [stepB]

/-- The nodes along the way, and its pipes. -/
def nod (l : List Pip) (f : Int → Int) (v0 : Int) : Nat → Int
  | 0 => v0
  | j + 1 => oth (pp l (firstK l f (nod l f v0 j))) (nod l f v0 j)
def kk (l : List Pip) (f : Int → Int) (v0 : Int) (j : Nat) : Nat := firstK l f (nod l f v0 j)
theorem nod_succ (l : List Pip) (f : Int → Int) (v0 : Int) (j : Nat) : nod l f v0 (j + 1) = oth (pp l (kk l f v0 j)) (nod l f v0 j) := rfl
theorem step_ex {N : Int} {l : List Pip} {t v : Int} (hg : goodNet N l = true) (h1 : 1 ≤ v) (h2 : v ≤ N) (h : 0 < far l 0 t v) : ∃ k, k < l.length ∧ stepB l (far l 0 t) v k = true := by
  obtain ⟨u, he, hu⟩ := (far_is (wo := 0) (s := t) hg).back v h1 h2 h
  obtain ⟨k, hk, -, ho, hx⟩ := he.symm hg
  exact ⟨k, hk, stepB_iff.2 ⟨by rw [ho]; exact hx, by rw [ho]; exact hu⟩⟩
theorem nod_ok {N : Int} {l : List Pip} {t v0 : Int} (hg : goodNet N l = true) (h1 : 1 ≤ v0) (h2 : v0 ≤ N) : ∀ j : Nat, (j : Int) ≤ far l 0 t v0 → (1 ≤ nod l (far l 0 t) v0 j ∧ nod l (far l 0 t) v0 j ≤ N) ∧ far l 0 t (nod l (far l 0 t) v0 j) = far l 0 t v0 - j
  | 0, _ => ⟨⟨h1, h2⟩, by simp [nod]⟩
  | j + 1, h => by
    obtain ⟨⟨a, b⟩, c⟩ := nod_ok (t := t) hg h1 h2 j (by omega)
    obtain ⟨k1, k2, -⟩ := firstK_ok (step_ex (t := t) hg a b (by omega))
    rw [stepB_iff] at k2
    obtain ⟨-, e, -, -⟩ := okQ_ends hg k1 rfl k2.1
    rw [nod_succ]
    refine ⟨e, ?_⟩
    show far l 0 t (oth (pp l (firstK l (far l 0 t) (nod l (far l 0 t) v0 j))) (nod l (far l 0 t) v0 j)) = _
    rw [k2.2]
    omega
theorem kk_ok {N : Int} {l : List Pip} {t v0 : Int} {j : Nat} (hg : goodNet N l = true) (h1 : 1 ≤ v0) (h2 : v0 ≤ N) (hj : (j : Int) < far l 0 t v0) : kk l (far l 0 t) v0 j < l.length ∧ stepB l (far l 0 t) (nod l (far l 0 t) v0 j) (kk l (far l 0 t) v0 j) = true ∧ ∀ i, i < kk l (far l 0 t) v0 j → stepB l (far l 0 t) (nod l (far l 0 t) v0 j) i = false := by
  obtain ⟨⟨a, b⟩, c⟩ := nod_ok (t := t) hg h1 h2 j (by omega)
  exact firstK_ok (step_ex hg a b (by omega))
theorem nod_end {N : Int} {l : List Pip} {t v0 : Int} {j : Nat} (hg : goodNet N l = true) (h1 : 1 ≤ v0) (h2 : v0 ≤ N) (hj : (j : Int) ≤ far l 0 t v0) : nod l (far l 0 t) v0 j = t ↔ (j : Int) = far l 0 t v0 := by
  obtain ⟨⟨a, b⟩, c⟩ := nod_ok (t := t) hg h1 h2 j hj
  constructor
  · intro e
    rw [e, far_self hg] at c
    omega
  · intro e
    exact (far_is (wo := 0) (s := t) hg).only _ a b (by omega)
/-- The Ids of the first pipes of the way. -/
def wids (l : List Pip) (f : Int → Int) (v0 : Int) (d : Nat) : List Int := (List.range d).map fun j => (pp l (kk l f v0 j)).1
theorem wids_succ (l : List Pip) (f : Int → Int) (v0 : Int) (d : Nat) : wids l f v0 (d + 1) = wids l f v0 d ++ [(pp l (kk l f v0 d)).1] := by simp [wids, List.range_succ]
theorem wids_len (l : List Pip) (f : Int → Int) (v0 : Int) (d : Nat) : (wids l f v0 d).length = d := by simp [wids]
theorem wids_get (l : List Pip) (f : Int → Int) (v0 : Int) {d j : Nat} (h : j < d) : (wids l f v0 d)[j]?.getD 0 = (pp l (kk l f v0 j)).1 := by simp [wids, h]
/-- The loss of a pipe, passed from a node on. -/
def sgl (l : List Pip) (fs : List Int) (v : Int) (k : Nat) : Int := if v = (pp l k).2.1 then loss l fs k else -(loss l fs k)
def lsum (l : List Pip) (fs : List Int) (f : Int → Int) (v0 : Int) (d : Nat) : Int := ((List.range d).map fun j => sgl l fs (nod l f v0 j) (kk l f v0 j)).sum
theorem lsum_succ (l : List Pip) (fs : List Int) (f : Int → Int) (v0 : Int) (d : Nat) : lsum l fs f v0 (d + 1) = lsum l fs f v0 d + sgl l fs (nod l f v0 d) (kk l f v0 d) := by simp [lsum, List.range_succ]
theorem sgl_fit {N : Int} {l : List Pip} {fs : List Int} {v : Int} {k : Nat} (hg : goodNet N l = true) (hf : goodFl l.length fs = true) (hk : k < l.length) : -576000000 ≤ sgl l fs v k ∧ sgl l fs v k ≤ 576000000 := by
  have h1 := (goodNet_pipe hg hk).2.2.2.2
  have h2 := (goodFl_iff.1 hf).2 _ (getD_mem fs k (by have := (goodFl_iff.1 hf).1; omega))
  have := (loss_fit h1 h2).2
  unfold sgl loss
  split <;> omega
theorem lsum_fit {N : Int} {l : List Pip} {fs : List Int} {t v0 : Int} (hg : goodNet N l = true) (hf : goodFl l.length fs = true) (h1 : 1 ≤ v0) (h2 : v0 ≤ N) : ∀ d : Nat, (d : Int) ≤ far l 0 t v0 → -(576000000 * (d : Int)) ≤ lsum l fs (far l 0 t) v0 d ∧ lsum l fs (far l 0 t) v0 d ≤ 576000000 * (d : Int)
  | 0, _ => by simp [lsum]
  | d + 1, h => by
    have ih := lsum_fit (t := t) hg hf h1 h2 d (by omega)
    have hk := (kk_ok (t := t) (j := d) hg h1 h2 (by omega)).1
    have := sgl_fit (v := nod l (far l 0 t) v0 d) hg hf hk
    rw [lsum_succ]
    omega
theorem findQ_at {N : Int} {l : List Pip} {k : Nat} (hg : goodNet N l = true) (hk : k < l.length) : findQ l (pp l k).1 = k :=
  findQ_hit hk rfl (fun j hj => by have := ids_rise hg k j hk hj; omega)

end Go.Proofs.Ytpmffboojkfpdaa

