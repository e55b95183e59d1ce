/-
  Texts of this claim, joined: DrawN.
-/
import Derived.Test.YtlnhikhpkcgegaaLo10
/-
  The draws of networks, flows, demands, nodes.
-/
set_option linter.unusedVariables false
set_option linter.unusedSimpArgs false
namespace Go.Proofs.Ytlnhikhpkcgegaa
open Go.RowKit

/-- Inside a draw: the cursor at g, the network's box at b, the box of the result, all new since w. -/
structure DB (w W : World) (g b K : Nat) (N : Int) (a : Option Addr) (m c : Nat) (L : List Pip) : Prop where
  cur : Cur W g K
  bel : Below w.heap.size w W
  box : W.heap[b]? = some (.cells #[.int .i64 N, .slice a m c] 26 (0, 0))
  res : W.heap[w.heap.size]? = some (.cells #[.int .i64 0, .slice none 0 0] 26 (0, 0))
  own : OwnQ W (w.heap.size + 1) (.slice a m c) L
  ne : ∀ k, Value.ownBlock (.slice a m c) = some k → k ≠ b ∧ k ≠ g
  lo : w.heap.size < b ∧ w.heap.size < g ∧ b ≠ g
/-- A list that is new since w, apart from the cursor. -/
structure LB (w W : World) (g : Nat) (a : Option Addr) (k c : Nat) (l : List Int) : Prop where
  own : OwnI W (w.heap.size + 1) (.slice a k c) l
  ne : ∀ q, Value.ownBlock (.slice a k c) = some q → q ≠ g
section
variable {w W W' : World} {g b K : Nat} {N : Int} {a : Option Addr} {m c k : Nat} {L : List Pip} {l : List Int}
theorem or_ne {x : Option Nat} {g : Nat} (h : ∀ q, x = some q → q ≠ g) : x = none ∨ x ≠ some g := by
  cases x with
  | none => exact .inl rfl
  | some q => exact .inr (fun e => h q rfl (Option.some.inj e))
theorem DB.lt (h : DB w W g b K N a m c L) : b < W.heap.size ∧ w.heap.size < W.heap.size := ⟨(Array.getElem?_eq_some_iff.1 h.box).1, (Array.getElem?_eq_some_iff.1 h.res).1⟩
theorem DB.step {K' : Nat} (h : DB w W g b K N a m c L) (hc : Cur W' g K') (hg : W.grownBy W' (some g)) : DB w W' g b K' N a m c L :=
  ⟨hc, h.bel.grown hg h.bel.size (fun q e => by have := Option.some.inj e; have := h.lo; omega), (hg.block b h.lt.1 (fun e => by have := Option.some.inj e; have := h.lo; omega)).trans h.box, (hg.block _ h.lt.2 (fun e => by have := Option.some.inj e; have := h.lo; omega)).trans h.res, OwnS.kept h.own hg (or_ne (fun q e => (h.ne q e).2)), h.ne, h.lo⟩
theorem DB.below (h : DB w W g b K N a m c L) (hb : Below W.heap.size W W') : DB w W' g b K N a m c L := h.step (h.cur.below hb) (grown_of_below hb _)
/-- The result stored. -/
structure DE (w W : World) (b : Nat) (N : Int) (a : Option Addr) (m c : Nat) (L : List Pip) : Prop where
  bel : Below w.heap.size w W
  box : W.heap[b]? = some (.cells #[.int .i64 N, .slice a m c] 26 (0, 0))
  own : OwnQ W (w.heap.size + 1) (.slice a m c) L
theorem DB.put {u v : Value} (h : DB w W g b K N a m c L) : DE w ((W.setCell ⟨w.heap.size, 0, none⟩ u).setCell ⟨w.heap.size, 1, none⟩ v) b N a m c L := by
  refine ⟨(h.bel.setCell (Nat.le_refl _) _).setCell (Nat.le_refl _) _, ?_, OwnS.far (OwnS.far h.own (by omega)) (by omega)⟩
  exact (Below.heap_setCell _ _ _ _ (by have := h.lo; show b ≠ w.heap.size; omega)).trans ((Below.heap_setCell _ _ _ _ (by have := h.lo; show b ≠ w.heap.size; omega)).trans h.box)
theorem LB.step (h : LB w W g a k c l) (hg : W.grownBy W' (some g)) : LB w W' g a k c l := ⟨h.own.kept hg (or_ne h.ne), h.ne⟩
theorem LB.below (h : LB w W g a k c l) (hb : Below W.heap.size W W') : LB w W' g a k c l := h.step (grown_of_below hb _)
theorem LB.put {u v : Value} (h : LB w W g a k c l) : OwnI ((W.setCell ⟨w.heap.size, 0, none⟩ u).setCell ⟨w.heap.size, 1, none⟩ v) (w.heap.size + 1) (.slice a k c) l := OwnI.far (OwnI.far h.own (by omega)) (by omega)
theorem LB.new {B : Nat} (h : OwnI W B (.slice a k c) l) (hB : g < B) (hw : w.heap.size < B) : LB w W g a k c l := ⟨h.mono (by omega), fun q e => by have := (h.lt q e).1; omega⟩
theorem own_addr {b o : Nat} (h : ∀ q, Value.ownBlock (.slice a k c) = some q → q ≠ g) (e : a = some ⟨b, o, none⟩) : b ≠ g := by
  subst e
  exact h b rfl
end

set_option maxRecDepth 100000 in
set_option maxHeartbeats 8000000 in
theorem s_DrawTreeFlows (a0 : Option Addr) (n0 c0 : Nat) (w : World) (h : BytesAt w a0 n0) :
    Calls Try.prog 9 #[.slice a0 n0 c0] w fun e w' => ∃ (N : Int) (a : Option Addr) (m c : Nat) (L : List Pip) (v1 : Int) (a2 : Option Addr) (m2 c2 : Nat) (l2 : List Int), e = .returned (.tuple #[.agg #[.int .i64 N, .slice a m c], .int .i64 v1, .slice a2 m2 c2]) ∧ OwnQ w' w.heap.size (.slice a m c) L ∧ OwnI w' w.heap.size (.slice a2 m2 c2) l2 ∧ ((0 ≤ N ∧ N ≤ 9) ∧ m ≤ 11 ∧ m2 ≤ 1001) ∧ Below w.heap.size w w' := by
  have H := hid h
  clear h
  have T0 := hid (heap_alloc_new w (.cells #[.int .i64 0, .slice none 0 0] 26))
  go_enter Try.func9, Try.ntmps9
  go_upto_region 2 with fail
  have B0 := hid (by go_grown : Below w.heap.size w ((w.alloc (.cells #[.int .i64 0, .slice none 0 0] 26)).alloc (.cells #[.slice a0 n0 c0, .int .i64 0, .int .u64 0] 80)))
  have C0 := hid (Cur.start (c := c0) (g := w.heap.size + 1) (H.out.below (by go_grown : Below w.heap.size w (w.alloc (.cells #[.int .i64 0, .slice none 0 0] 26)))) (by simp))
  have R0 := hid (mid_new w (.cells #[.int .i64 0, .slice none 0 0] 26) (.cells #[.slice a0 n0 c0, .int .i64 0, .int .u64 0] 80) w.heap.size rfl)
  have hz0 : w.heap.size + 1 < ((w.alloc (.cells #[.int .i64 0, .slice none 0 0] 26)).alloc (.cells #[.slice a0 n0 c0, .int .i64 0, .int .u64 0] 80)).heap.size := by simp
  obtain ⟨g, hgg⟩ : ∃ g, w.heap.size + 1 = g := ⟨_, rfl⟩
  rw [hgg] at C0 hz0 ⊢
  generalize (w.alloc (.cells #[.int .i64 0, .slice none 0 0] 26)).alloc (.cells #[.slice a0 n0 c0, .int .i64 0, .int .u64 0] 80) = w0 at *
  have hwg : w.heap.size < g := by omega
  clear hgg
  go_wp2_with fail
  refine (c_treeNetwork g 0 _ C0.out (by omega)).mono ?_
  rintro e w1 ⟨⟨N, a, m, c, rfl, ⟨hN0, hN1, hm⟩, L, ho⟩, hc1, hg1⟩
  have hz1 := hg1.size
  have S2 := hid (show DB w (w1.alloc (.cells #[.int .i64 N, .slice a m c] 26)) g w1.heap.size (0 + 500) N a m c L from
    ⟨hc1.below (by go_grown), bstep (Below.grown B0.out hg1 B0.out.size (fun q e => by have := Option.some.inj e; omega)) (by go_grown), heap_alloc_new _ _, (Below.heap_alloc _ _ _ (by omega)).trans ((hg1.block w.heap.size (by omega) (fun e => by have := Option.some.inj e; omega)).trans R0.out), OwnS.mono (OwnS.below ho (by go_grown)) (by omega), fun k e => by have := OwnS.lt ho k e; omega, by omega⟩)
  clear hc1 hg1 ho
  go_upto_region 3 with fail
  obtain ⟨b, hb⟩ : ∃ b, w1.heap.size = b := ⟨_, rfl⟩
  rw [hb] at S2 ⊢
  generalize w1.alloc (.cells #[.int .i64 N, .slice a m c] 26) = w2 at *
  clear hb hz1
  obtain ⟨y0, y1⟩ := two_of S2.out.box
  have hlt2 := S2.out.lt
  refine wp_region_noPanic ?_
  refine wp_region_held_drew (S := (fun w' => w'.cell? ⟨b, 0, none⟩ = some (.int .i64 N) ∧ w'.cell? ⟨b, 1, none⟩ = some (.slice a m c))) (by kernel_rfl) (by exact ⟨y0, y1⟩) (fun hHeld => ?_)
  refine wpAnyH_take' (i := 0) (v := ?_) rfl (by kernel_rfl) (by kernel_rfl) (by kernel_rfl) (fun _ _ _ h => h) (Or.inl ⟨by rfl, ?_⟩) (by assumption) ?_
  rotate_left
  · (intro w' hSw; (try dsimp only at hSw); go_simp; all_goals with_reducible rfl)
  try simp only [Act.put, List.setIfInBounds_toArray, List.set_cons_zero, List.set_cons_succ]
  refine wpAnyH_take' (i := 1) (v := ?_) rfl (by kernel_rfl) (by kernel_rfl) (by kernel_rfl) (fun _ _ _ h => h) (Or.inl ⟨by rfl, ?_⟩) (by assumption) ?_
  rotate_left
  · (intro w' hSw; (try dsimp only at hSw); go_simp; all_goals with_reducible rfl)
  try simp only [Act.put, List.setIfInBounds_toArray, List.set_cons_zero, List.set_cons_succ]
  refine wpAnyH_take' (i := 2) (v := ?_) rfl (by kernel_rfl) (by kernel_rfl) (by kernel_rfl) (fun _ _ _ h => h) (Or.inl ⟨by rfl, ?_⟩) (by assumption) ?_
  rotate_left
  · (intro w' hSw; (try dsimp only at hSw); go_simp; all_goals with_reducible rfl)
  try simp only [Act.put, List.setIfInBounds_toArray, List.set_cons_zero, List.set_cons_succ]
  refine wpAnyH_take' (i := 4) (v := ?_) rfl (by kernel_rfl) (by kernel_rfl) (by kernel_rfl) (fun _ _ _ h => h) (Or.inl ⟨by rfl, ?_⟩) (by assumption) ?_
  rotate_left
  · (intro w' hSw; (try dsimp only at hSw); go_simp; all_goals with_reducible rfl)
  try simp only [Act.put, List.setIfInBounds_toArray, List.set_cons_zero, List.set_cons_succ]
  refine wpAnyH_take' (i := 5) (v := ?_) rfl (by kernel_rfl) (by kernel_rfl) (by kernel_rfl) (fun _ _ _ h => h) (Or.inl ⟨by rfl, ?_⟩) (by assumption) ?_
  rotate_left
  · (intro w' hSw; (try dsimp only at hSw); go_simp; all_goals with_reducible rfl)
  try simp only [Act.put, List.setIfInBounds_toArray, List.set_cons_zero, List.set_cons_succ]
  refine wpAnyH_ready (rs := [3]) (by kernel_rfl) (by simp) ?_
  refine allReadyH_cons' rfl (fun Kn hKn => ?_) AllReadyH.nil
  go_simp
  go_at_call 63
  refine (c_nodeOf g _ N _ _ _ _ (S2.out.below (by go_grown)).cur (by omega) (by omega)).mono ?_
  rintro e w3 ⟨⟨v1, rfl⟩, hc, hg⟩
  have S3 := hid ((S2.out.below (by go_grown)).step hc hg)
  clear hc hg y0 y1 S2
  obtain ⟨y0, y1⟩ := two_of S3.out.box
  have hlt3 := S3.out.lt
  refine hKn.out _ _ ⟨y0, y1⟩ (fun hHeldN => ?_)
  clear hKn Kn hHeld
  have hHeld := hHeldN
  clear hHeldN
  try simp only [Act.put, List.setIfInBounds_toArray, List.set_cons_zero, List.set_cons_succ]
  refine wpAnyH_ready (rs := [6]) (by kernel_rfl) (by simp) ?_
  refine allReadyH_cons' rfl (fun Kn hKn => ?_) AllReadyH.nil
  go_simp
  go_at_call 64
  refine (c_demands g _ N _ _ _ _ (S3.out.below (by go_grown)).cur (by omega) (by omega)).mono ?_
  rintro e w4 ⟨⟨a2, m2, c2, l2, rfl, ho, hm2⟩, hc, hg⟩
  have S4 := hid ((S3.out.below (by go_grown)).step hc hg)
  have O2_4 := hid (LB.new (w := w) (g := g) ho (by have := S3.out.cur.lt; simp; omega) (by have := S3.out.lt; simp; omega))
  clear ho
  clear hc hg y0 y1 S3
  obtain ⟨y0, y1⟩ := two_of S4.out.box
  have hlt4 := S4.out.lt
  refine hKn.out _ _ ⟨y0, y1⟩ (fun hHeldN => ?_)
  clear hKn Kn hHeld
  have hHeld := hHeldN
  clear hHeldN
  try simp only [Act.put, List.setIfInBounds_toArray, List.set_cons_zero, List.set_cons_succ]
  have HD := hid (S4.out.put (u := .int .i64 N) (v := .slice a m c))
  have P2 := hid (O2_4.out.put (u := .int .i64 N) (v := .slice a m c))
  obtain ⟨z0, z1⟩ := two_of S4.out.res
  have fz := fun j => frozen_of_row w4 w.heap.size j _ _ S4.out.res
  have hlo := S4.out.lo
  have hltz := S4.out.lt
  refine wpAnyH_ready (rs := [7]) (by kernel_rfl) (by simp) ?_
  refine allReadyH_cons' rfl (fun Kn hKn => ?_) AllReadyH.nil
  go_simp
  refine hKn.out _ _ (two_of HD.out.box) (fun hHeldN => ?_)
  clear hKn Kn hHeld
  have hHeld := hHeldN
  clear hHeldN
  try simp only [Act.put, List.setIfInBounds_toArray, List.set_cons_zero, List.set_cons_succ]
  refine wpAnyH_take' (i := 8) (v := ?_) rfl (by kernel_rfl) (by kernel_rfl) (by kernel_rfl) (fun _ _ _ h => h) (Or.inl ⟨by rfl, ?_⟩) (by assumption) ?_
  rotate_left
  · (intro w' hSw; (try dsimp only at hSw); go_simp; all_goals with_reducible rfl)
  try simp only [Act.put, List.setIfInBounds_toArray, List.set_cons_zero, List.set_cons_succ]
  refine wpAnyH_take' (i := 9) (v := ?_) rfl (by kernel_rfl) (by kernel_rfl) (by kernel_rfl) (fun _ _ _ h => h) (Or.inl ⟨by rfl, ?_⟩) (by assumption) ?_
  rotate_left
  · (intro w' hSw; (try dsimp only at hSw); go_simp; all_goals with_reducible rfl)
  try simp only [Act.put, List.setIfInBounds_toArray, List.set_cons_zero, List.set_cons_succ]
  refine wpAnyH_done (by kernel_rfl) ?_ _
  refine NoPanic.normal ?_
  clear hHeld
  go_wp2
  refine bodyPost_ret (v := .tuple #[.agg #[.int .i64 N, .slice a m c], .int .i64 v1, .slice a2 m2 c2]) (by simp [results, Try.results9, go_sem, *]) rfl ⟨N, a, m, c, L, v1, a2, m2, c2, l2, rfl, OwnS.mono HD.out.own (by omega), P2.out.mono (by omega), ⟨⟨by omega, by omega⟩, by omega, by omega⟩, HD.out.bel⟩

set_option maxRecDepth 100000 in
set_option maxHeartbeats 8000000 in
theorem s_DrawHeadsOf (a0 : Option Addr) (n0 c0 : Nat) (w : World) (h : BytesAt w a0 n0) :
    Calls Try.prog 31 #[.slice a0 n0 c0] w fun e w' => ∃ (N : Int) (a : Option Addr) (m c : Nat) (L : List Pip) (v1 : Int) (a2 : Option Addr) (m2 c2 : Nat) (l2 : List Int) (v3 : Int), e = .returned (.tuple #[.agg #[.int .i64 N, .slice a m c], .int .i64 v1, .slice a2 m2 c2, .int .i64 v3]) ∧ OwnQ w' w.heap.size (.slice a m c) L ∧ OwnI w' w.heap.size (.slice a2 m2 c2) l2 ∧ ((0 ≤ N ∧ N ≤ 9) ∧ m ≤ 11 ∧ m2 ≤ 1001) ∧ Below w.heap.size w w' := by
  have H := hid h
  clear h
  have T0 := hid (heap_alloc_new w (.cells #[.int .i64 0, .slice none 0 0] 26))
  go_enter Try.func31, Try.ntmps31
  go_upto_region 2 with fail
  have B0 := hid (by go_grown : Below w.heap.size w ((w.alloc (.cells #[.int .i64 0, .slice none 0 0] 26)).alloc (.cells #[.slice a0 n0 c0, .int .i64 0, .int .u64 0] 80)))
  have C0 := hid (Cur.start (c := c0) (g := w.heap.size + 1) (H.out.below (by go_grown : Below w.heap.size w (w.alloc (.cells #[.int .i64 0, .slice none 0 0] 26)))) (by simp))
  have R0 := hid (mid_new w (.cells #[.int .i64 0, .slice none 0 0] 26) (.cells #[.slice a0 n0 c0, .int .i64 0, .int .u64 0] 80) w.heap.size rfl)
  have hz0 : w.heap.size + 1 < ((w.alloc (.cells #[.int .i64 0, .slice none 0 0] 26)).alloc (.cells #[.slice a0 n0 c0, .int .i64 0, .int .u64 0] 80)).heap.size := by simp
  obtain ⟨g, hgg⟩ : ∃ g, w.heap.size + 1 = g := ⟨_, rfl⟩
  rw [hgg] at C0 hz0 ⊢
  generalize (w.alloc (.cells #[.int .i64 0, .slice none 0 0] 26)).alloc (.cells #[.slice a0 n0 c0, .int .i64 0, .int .u64 0] 80) = w0 at *
  have hwg : w.heap.size < g := by omega
  clear hgg
  go_wp2_with fail
  refine (c_treeNetwork g 0 _ C0.out (by omega)).mono ?_
  rintro e w1 ⟨⟨N, a, m, c, rfl, ⟨hN0, hN1, hm⟩, L, ho⟩, hc1, hg1⟩
  have hz1 := hg1.size
  have S2 := hid (show DB w (w1.alloc (.cells #[.int .i64 N, .slice a m c] 26)) g w1.heap.size (0 + 500) N a m c L from
    ⟨hc1.below (by go_grown), bstep (Below.grown B0.out hg1 B0.out.size (fun q e => by have := Option.some.inj e; omega)) (by go_grown), heap_alloc_new _ _, (Below.heap_alloc _ _ _ (by omega)).trans ((hg1.block w.heap.size (by omega) (fun e => by have := Option.some.inj e; omega)).trans R0.out), OwnS.mono (OwnS.below ho (by go_grown)) (by omega), fun k e => by have := OwnS.lt ho k e; omega, by omega⟩)
  clear hc1 hg1 ho
  go_upto_region 3 with fail
  obtain ⟨b, hb⟩ : ∃ b, w1.heap.size = b := ⟨_, rfl⟩
  rw [hb] at S2 ⊢
  generalize w1.alloc (.cells #[.int .i64 N, .slice a m c] 26) = w2 at *
  clear hb hz1
  obtain ⟨y0, y1⟩ := two_of S2.out.box
  have hlt2 := S2.out.lt
  refine wp_region_noPanic ?_
  refine wp_region_held_drew (S := (fun w' => w'.cell? ⟨b, 0, none⟩ = some (.int .i64 N) ∧ w'.cell? ⟨b, 1, none⟩ = some (.slice a m c))) (by kernel_rfl) (by exact ⟨y0, y1⟩) (fun hHeld => ?_)
  refine wpAnyH_take' (i := 0) (v := ?_) rfl (by kernel_rfl) (by kernel_rfl) (by kernel_rfl) (fun _ _ _ h => h) (Or.inl ⟨by rfl, ?_⟩) (by assumption) ?_
  rotate_left
  · (intro w' hSw; (try dsimp only at hSw); go_simp; all_goals with_reducible rfl)
  try simp only [Act.put, List.setIfInBounds_toArray, List.set_cons_zero, List.set_cons_succ]
  refine wpAnyH_take' (i := 1) (v := ?_) rfl (by kernel_rfl) (by kernel_rfl) (by kernel_rfl) (fun _ _ _ h => h) (Or.inl ⟨by rfl, ?_⟩) (by assumption) ?_
  rotate_left
  · (intro w' hSw; (try dsimp only at hSw); go_simp; all_goals with_reducible rfl)
  try simp only [Act.put, List.setIfInBounds_toArray, List.set_cons_zero, List.set_cons_succ]
  refine wpAnyH_take' (i := 2) (v := ?_) rfl (by kernel_rfl) (by kernel_rfl) (by kernel_rfl) (fun _ _ _ h => h) (Or.inl ⟨by rfl, ?_⟩) (by assumption) ?_
  rotate_left
  · (intro w' hSw; (try dsimp only at hSw); go_simp; all_goals with_reducible rfl)
  try simp only [Act.put, List.setIfInBounds_toArray, List.set_cons_zero, List.set_cons_succ]
  refine wpAnyH_take' (i := 4) (v := ?_) rfl (by kernel_rfl) (by kernel_rfl) (by kernel_rfl) (fun _ _ _ h => h) (Or.inl ⟨by rfl, ?_⟩) (by assumption) ?_
  rotate_left
  · (intro w' hSw; (try dsimp only at hSw); go_simp; all_goals with_reducible rfl)
  try simp only [Act.put, List.setIfInBounds_toArray, List.set_cons_zero, List.set_cons_succ]
  refine wpAnyH_take' (i := 5) (v := ?_) rfl (by kernel_rfl) (by kernel_rfl) (by kernel_rfl) (fun _ _ _ h => h) (Or.inl ⟨by rfl, ?_⟩) (by assumption) ?_
  rotate_left
  · (intro w' hSw; (try dsimp only at hSw); go_simp; all_goals with_reducible rfl)
  try simp only [Act.put, List.setIfInBounds_toArray, List.set_cons_zero, List.set_cons_succ]
  refine wpAnyH_take' (i := 7) (v := ?_) rfl (by kernel_rfl) (by kernel_rfl) (by kernel_rfl) (fun _ _ _ h => h) (Or.inl ⟨by rfl, ?_⟩) (by assumption) ?_
  rotate_left
  · (intro w' hSw; (try dsimp only at hSw); go_simp; all_goals with_reducible rfl)
  try simp only [Act.put, List.setIfInBounds_toArray, List.set_cons_zero, List.set_cons_succ]
  refine wpAnyH_ready (rs := [3]) (by kernel_rfl) (by simp) ?_
  refine allReadyH_cons' rfl (fun Kn hKn => ?_) AllReadyH.nil
  go_simp
  go_at_call 63
  refine (c_nodeOf g _ N _ _ _ _ (S2.out.below (by go_grown)).cur (by omega) (by omega)).mono ?_
  rintro e w3 ⟨⟨v1, rfl⟩, hc, hg⟩
  have S3 := hid ((S2.out.below (by go_grown)).step hc hg)
  clear hc hg y0 y1 S2
  obtain ⟨y0, y1⟩ := two_of S3.out.box
  have hlt3 := S3.out.lt
  refine hKn.out _ _ ⟨y0, y1⟩ (fun hHeldN => ?_)
  clear hKn Kn hHeld
  have hHeld := hHeldN
  clear hHeldN
  try simp only [Act.put, List.setIfInBounds_toArray, List.set_cons_zero, List.set_cons_succ]
  refine wpAnyH_ready (rs := [6]) (by kernel_rfl) (by simp) ?_
  refine allReadyH_cons' rfl (fun Kn hKn => ?_) AllReadyH.nil
  go_simp
  go_at_call 64
  refine (c_demands g _ N _ _ _ _ (S3.out.below (by go_grown)).cur (by omega) (by omega)).mono ?_
  rintro e w4 ⟨⟨a2, m2, c2, l2, rfl, ho, hm2⟩, hc, hg⟩
  have S4 := hid ((S3.out.below (by go_grown)).step hc hg)
  have O2_4 := hid (LB.new (w := w) (g := g) ho (by have := S3.out.cur.lt; simp; omega) (by have := S3.out.lt; simp; omega))
  clear ho
  clear hc hg y0 y1 S3
  obtain ⟨y0, y1⟩ := two_of S4.out.box
  have hlt4 := S4.out.lt
  refine hKn.out _ _ ⟨y0, y1⟩ (fun hHeldN => ?_)
  clear hKn Kn hHeld
  have hHeld := hHeldN
  clear hHeldN
  try simp only [Act.put, List.setIfInBounds_toArray, List.set_cons_zero, List.set_cons_succ]
  refine wpAnyH_ready (rs := [8]) (by kernel_rfl) (by simp) ?_
  refine allReadyH_cons' rfl (fun Kn hKn => ?_) AllReadyH.nil
  go_simp
  go_at_call 100
  refine (c_head g _ _ (S4.out.below (by go_grown)).cur (by omega)).mono ?_
  rintro e w5 ⟨⟨v3, rfl⟩, hc, hg⟩
  have S5 := hid ((S4.out.below (by go_grown)).step hc hg)
  have O2_5 := hid ((O2_4.out.below (by go_grown)).step hg)
  clear O2_4
  clear hc hg y0 y1 S4
  obtain ⟨y0, y1⟩ := two_of S5.out.box
  have hlt5 := S5.out.lt
  refine hKn.out _ _ ⟨y0, y1⟩ (fun hHeldN => ?_)
  clear hKn Kn hHeld
  have hHeld := hHeldN
  clear hHeldN
  try simp only [Act.put, List.setIfInBounds_toArray, List.set_cons_zero, List.set_cons_succ]
  have HD := hid (S5.out.put (u := .int .i64 N) (v := .slice a m c))
  have P2 := hid (O2_5.out.put (u := .int .i64 N) (v := .slice a m c))
  obtain ⟨z0, z1⟩ := two_of S5.out.res
  have fz := fun j => frozen_of_row w5 w.heap.size j _ _ S5.out.res
  have hlo := S5.out.lo
  have hltz := S5.out.lt
  refine wpAnyH_ready (rs := [9]) (by kernel_rfl) (by simp) ?_
  refine allReadyH_cons' rfl (fun Kn hKn => ?_) AllReadyH.nil
  go_simp
  refine hKn.out _ _ (two_of HD.out.box) (fun hHeldN => ?_)
  clear hKn Kn hHeld
  have hHeld := hHeldN
  clear hHeldN
  try simp only [Act.put, List.setIfInBounds_toArray, List.set_cons_zero, List.set_cons_succ]
  refine wpAnyH_take' (i := 10) (v := ?_) rfl (by kernel_rfl) (by kernel_rfl) (by kernel_rfl) (fun _ _ _ h => h) (Or.inl ⟨by rfl, ?_⟩) (by assumption) ?_
  rotate_left
  · (intro w' hSw; (try dsimp only at hSw); go_simp; all_goals with_reducible rfl)
  try simp only [Act.put, List.setIfInBounds_toArray, List.set_cons_zero, List.set_cons_succ]
  refine wpAnyH_take' (i := 11) (v := ?_) rfl (by kernel_rfl) (by kernel_rfl) (by kernel_rfl) (fun _ _ _ h => h) (Or.inl ⟨by rfl, ?_⟩) (by assumption) ?_
  rotate_left
  · (intro w' hSw; (try dsimp only at hSw); go_simp; all_goals with_reducible rfl)
  try simp only [Act.put, List.setIfInBounds_toArray, List.set_cons_zero, List.set_cons_succ]
  refine wpAnyH_take' (i := 12) (v := ?_) rfl (by kernel_rfl) (by kernel_rfl) (by kernel_rfl) (fun _ _ _ h => h) (Or.inl ⟨by rfl, ?_⟩) (by assumption) ?_
  rotate_left
  · (intro w' hSw; (try dsimp only at hSw); go_simp; all_goals with_reducible rfl)
  try simp only [Act.put, List.setIfInBounds_toArray, List.set_cons_zero, List.set_cons_succ]
  refine wpAnyH_done (by kernel_rfl) ?_ _
  refine NoPanic.normal ?_
  clear hHeld
  go_wp2
  refine bodyPost_ret (v := .tuple #[.agg #[.int .i64 N, .slice a m c], .int .i64 v1, .slice a2 m2 c2, .int .i64 v3]) (by simp [results, Try.results31, go_sem, *]) rfl ⟨N, a, m, c, L, v1, a2, m2, c2, l2, v3, rfl, OwnS.mono HD.out.own (by omega), P2.out.mono (by omega), ⟨⟨by omega, by omega⟩, by omega, by omega⟩, HD.out.bel⟩

set_option maxRecDepth 100000 in
set_option maxHeartbeats 8000000 in
theorem s_DrawHeadNeeded (a0 : Option Addr) (n0 c0 : Nat) (w : World) (h : BytesAt w a0 n0) :
    Calls Try.prog 36 #[.slice a0 n0 c0] w fun e w' => ∃ (N : Int) (a : Option Addr) (m c : Nat) (L : List Pip) (v1 : Int) (a2 : Option Addr) (m2 c2 : Nat) (l2 : List Int) (a3 : Option Addr) (m3 c3 : Nat) (l3 : List Int) (v4 : Int), e = .returned (.tuple #[.agg #[.int .i64 N, .slice a m c], .int .i64 v1, .slice a2 m2 c2, .slice a3 m3 c3, .int .i64 v4]) ∧ OwnQ w' w.heap.size (.slice a m c) L ∧ OwnI w' w.heap.size (.slice a2 m2 c2) l2 ∧ OwnI w' w.heap.size (.slice a3 m3 c3) l3 ∧ ((0 ≤ N ∧ N ≤ 9) ∧ m ≤ 11 ∧ m2 ≤ 1001 ∧ m3 ≤ 1001) ∧ Below w.heap.size w w' := by
  have H := hid h
  clear h
  have T0 := hid (heap_alloc_new w (.cells #[.int .i64 0, .slice none 0 0] 26))
  go_enter Try.func36, Try.ntmps36
  go_upto_region 2 with fail
  have B0 := hid (by go_grown : Below w.heap.size w ((w.alloc (.cells #[.int .i64 0, .slice none 0 0] 26)).alloc (.cells #[.slice a0 n0 c0, .int .i64 0, .int .u64 0] 80)))
  have C0 := hid (Cur.start (c := c0) (g := w.heap.size + 1) (H.out.below (by go_grown : Below w.heap.size w (w.alloc (.cells #[.int .i64 0, .slice none 0 0] 26)))) (by simp))
  have R0 := hid (mid_new w (.cells #[.int .i64 0, .slice none 0 0] 26) (.cells #[.slice a0 n0 c0, .int .i64 0, .int .u64 0] 80) w.heap.size rfl)
  have hz0 : w.heap.size + 1 < ((w.alloc (.cells #[.int .i64 0, .slice none 0 0] 26)).alloc (.cells #[.slice a0 n0 c0, .int .i64 0, .int .u64 0] 80)).heap.size := by simp
  obtain ⟨g, hgg⟩ : ∃ g, w.heap.size + 1 = g := ⟨_, rfl⟩
  rw [hgg] at C0 hz0 ⊢
  generalize (w.alloc (.cells #[.int .i64 0, .slice none 0 0] 26)).alloc (.cells #[.slice a0 n0 c0, .int .i64 0, .int .u64 0] 80) = w0 at *
  have hwg : w.heap.size < g := by omega
  clear hgg
  go_wp2_with fail
  refine (c_treeNetwork g 0 _ C0.out (by omega)).mono ?_
  rintro e w1 ⟨⟨N, a, m, c, rfl, ⟨hN0, hN1, hm⟩, L, ho⟩, hc1, hg1⟩
  have hz1 := hg1.size
  have S2 := hid (show DB w (w1.alloc (.cells #[.int .i64 N, .slice a m c] 26)) g w1.heap.size (0 + 500) N a m c L from
    ⟨hc1.below (by go_grown), bstep (Below.grown B0.out hg1 B0.out.size (fun q e => by have := Option.some.inj e; omega)) (by go_grown), heap_alloc_new _ _, (Below.heap_alloc _ _ _ (by omega)).trans ((hg1.block w.heap.size (by omega) (fun e => by have := Option.some.inj e; omega)).trans R0.out), OwnS.mono (OwnS.below ho (by go_grown)) (by omega), fun k e => by have := OwnS.lt ho k e; omega, by omega⟩)
  clear hc1 hg1 ho
  go_upto_region 3 with fail
  obtain ⟨b, hb⟩ : ∃ b, w1.heap.size = b := ⟨_, rfl⟩
  rw [hb] at S2 ⊢
  generalize w1.alloc (.cells #[.int .i64 N, .slice a m c] 26) = w2 at *
  clear hb hz1
  obtain ⟨y0, y1⟩ := two_of S2.out.box
  have hlt2 := S2.out.lt
  refine wp_region_noPanic ?_
  refine wp_region_held_drew (S := (fun w' => w'.cell? ⟨b, 0, none⟩ = some (.int .i64 N) ∧ w'.cell? ⟨b, 1, none⟩ = some (.slice a m c))) (by kernel_rfl) (by exact ⟨y0, y1⟩) (fun hHeld => ?_)
  refine wpAnyH_take' (i := 0) (v := ?_) rfl (by kernel_rfl) (by kernel_rfl) (by kernel_rfl) (fun _ _ _ h => h) (Or.inl ⟨by rfl, ?_⟩) (by assumption) ?_
  rotate_left
  · (intro w' hSw; (try dsimp only at hSw); go_simp; all_goals with_reducible rfl)
  try simp only [Act.put, List.setIfInBounds_toArray, List.set_cons_zero, List.set_cons_succ]
  refine wpAnyH_take' (i := 1) (v := ?_) rfl (by kernel_rfl) (by kernel_rfl) (by kernel_rfl) (fun _ _ _ h => h) (Or.inl ⟨by rfl, ?_⟩) (by assumption) ?_
  rotate_left
  · (intro w' hSw; (try dsimp only at hSw); go_simp; all_goals with_reducible rfl)
  try simp only [Act.put, List.setIfInBounds_toArray, List.set_cons_zero, List.set_cons_succ]
  refine wpAnyH_take' (i := 2) (v := ?_) rfl (by kernel_rfl) (by kernel_rfl) (by kernel_rfl) (fun _ _ _ h => h) (Or.inl ⟨by rfl, ?_⟩) (by assumption) ?_
  rotate_left
  · (intro w' hSw; (try dsimp only at hSw); go_simp; all_goals with_reducible rfl)
  try simp only [Act.put, List.setIfInBounds_toArray, List.set_cons_zero, List.set_cons_succ]
  refine wpAnyH_take' (i := 4) (v := ?_) rfl (by kernel_rfl) (by kernel_rfl) (by kernel_rfl) (fun _ _ _ h => h) (Or.inl ⟨by rfl, ?_⟩) (by assumption) ?_
  rotate_left
  · (intro w' hSw; (try dsimp only at hSw); go_simp; all_goals with_reducible rfl)
  try simp only [Act.put, List.setIfInBounds_toArray, List.set_cons_zero, List.set_cons_succ]
  refine wpAnyH_take' (i := 5) (v := ?_) rfl (by kernel_rfl) (by kernel_rfl) (by kernel_rfl) (fun _ _ _ h => h) (Or.inl ⟨by rfl, ?_⟩) (by assumption) ?_
  rotate_left
  · (intro w' hSw; (try dsimp only at hSw); go_simp; all_goals with_reducible rfl)
  try simp only [Act.put, List.setIfInBounds_toArray, List.set_cons_zero, List.set_cons_succ]
  refine wpAnyH_take' (i := 7) (v := ?_) rfl (by kernel_rfl) (by kernel_rfl) (by kernel_rfl) (fun _ _ _ h => h) (Or.inl ⟨by rfl, ?_⟩) (by assumption) ?_
  rotate_left
  · (intro w' hSw; (try dsimp only at hSw); go_simp; all_goals with_reducible rfl)
  try simp only [Act.put, List.setIfInBounds_toArray, List.set_cons_zero, List.set_cons_succ]
  refine wpAnyH_take' (i := 8) (v := ?_) rfl (by kernel_rfl) (by kernel_rfl) (by kernel_rfl) (fun _ _ _ h => h) (Or.inl ⟨by rfl, ?_⟩) (by assumption) ?_
  rotate_left
  · (intro w' hSw; (try dsimp only at hSw); go_simp; all_goals with_reducible rfl)
  try simp only [Act.put, List.setIfInBounds_toArray, List.set_cons_zero, List.set_cons_succ]
  refine wpAnyH_take' (i := 10) (v := ?_) rfl (by kernel_rfl) (by kernel_rfl) (by kernel_rfl) (fun _ _ _ h => h) (Or.inl ⟨by rfl, ?_⟩) (by assumption) ?_
  rotate_left
  · (intro w' hSw; (try dsimp only at hSw); go_simp; all_goals with_reducible rfl)
  try simp only [Act.put, List.setIfInBounds_toArray, List.set_cons_zero, List.set_cons_succ]
  refine wpAnyH_ready (rs := [3]) (by kernel_rfl) (by simp) ?_
  refine allReadyH_cons' rfl (fun Kn hKn => ?_) AllReadyH.nil
  go_simp
  go_at_call 63
  refine (c_nodeOf g _ N _ _ _ _ (S2.out.below (by go_grown)).cur (by omega) (by omega)).mono ?_
  rintro e w3 ⟨⟨v1, rfl⟩, hc, hg⟩
  have S3 := hid ((S2.out.below (by go_grown)).step hc hg)
  clear hc hg y0 y1 S2
  obtain ⟨y0, y1⟩ := two_of S3.out.box
  have hlt3 := S3.out.lt
  refine hKn.out _ _ ⟨y0, y1⟩ (fun hHeldN => ?_)
  clear hKn Kn hHeld
  have hHeld := hHeldN
  clear hHeldN
  try simp only [Act.put, List.setIfInBounds_toArray, List.set_cons_zero, List.set_cons_succ]
  refine wpAnyH_ready (rs := [6]) (by kernel_rfl) (by simp) ?_
  refine allReadyH_cons' rfl (fun Kn hKn => ?_) AllReadyH.nil
  go_simp
  go_at_call 64
  refine (c_demands g _ N _ _ _ _ (S3.out.below (by go_grown)).cur (by omega) (by omega)).mono ?_
  rintro e w4 ⟨⟨a2, m2, c2, l2, rfl, ho, hm2⟩, hc, hg⟩
  have S4 := hid ((S3.out.below (by go_grown)).step hc hg)
  have O2_4 := hid (LB.new (w := w) (g := g) ho (by have := S3.out.cur.lt; simp; omega) (by have := S3.out.lt; simp; omega))
  clear ho
  clear hc hg y0 y1 S3
  obtain ⟨y0, y1⟩ := two_of S4.out.box
  have hlt4 := S4.out.lt
  refine hKn.out _ _ ⟨y0, y1⟩ (fun hHeldN => ?_)
  clear hKn Kn hHeld
  have hHeld := hHeldN
  clear hHeldN
  try simp only [Act.put, List.setIfInBounds_toArray, List.set_cons_zero, List.set_cons_succ]
  refine wpAnyH_ready (rs := [9]) (by kernel_rfl) (by simp) ?_
  refine allReadyH_cons' rfl (fun Kn hKn => ?_) AllReadyH.nil
  go_simp
  go_at_call 109
  refine (c_heights g _ N _ _ _ _ (S4.out.below (by go_grown)).cur (by omega) (by omega)).mono ?_
  rintro e w5 ⟨⟨a3, m3, c3, l3, rfl, ho, hm3⟩, hc, hg⟩
  have S5 := hid ((S4.out.below (by go_grown)).step hc hg)
  have O2_5 := hid ((O2_4.out.below (by go_grown)).step hg)
  clear O2_4
  have O3_5 := hid (LB.new (w := w) (g := g) ho (by have := S4.out.cur.lt; simp; omega) (by have := S4.out.lt; simp; omega))
  clear ho
  clear hc hg y0 y1 S4
  obtain ⟨y0, y1⟩ := two_of S5.out.box
  have hlt5 := S5.out.lt
  refine hKn.out _ _ ⟨y0, y1⟩ (fun hHeldN => ?_)
  clear hKn Kn hHeld
  have hHeld := hHeldN
  clear hHeldN
  try simp only [Act.put, List.setIfInBounds_toArray, List.set_cons_zero, List.set_cons_succ]
  refine wpAnyH_ready (rs := [11]) (by kernel_rfl) (by simp) ?_
  refine allReadyH_cons' rfl (fun Kn hKn => ?_) AllReadyH.nil
  go_simp
  go_at_call 100
  refine (c_head g _ _ (S5.out.below (by go_grown)).cur (by omega)).mono ?_
  rintro e w6 ⟨⟨v4, rfl⟩, hc, hg⟩
  have S6 := hid ((S5.out.below (by go_grown)).step hc hg)
  have O2_6 := hid ((O2_5.out.below (by go_grown)).step hg)
  clear O2_5
  have O3_6 := hid ((O3_5.out.below (by go_grown)).step hg)
  clear O3_5
  clear hc hg y0 y1 S5
  obtain ⟨y0, y1⟩ := two_of S6.out.box
  have hlt6 := S6.out.lt
  refine hKn.out _ _ ⟨y0, y1⟩ (fun hHeldN => ?_)
  clear hKn Kn hHeld
  have hHeld := hHeldN
  clear hHeldN
  try simp only [Act.put, List.setIfInBounds_toArray, List.set_cons_zero, List.set_cons_succ]
  have HD := hid (S6.out.put (u := .int .i64 N) (v := .slice a m c))
  have P2 := hid (O2_6.out.put (u := .int .i64 N) (v := .slice a m c))
  have P3 := hid (O3_6.out.put (u := .int .i64 N) (v := .slice a m c))
  obtain ⟨z0, z1⟩ := two_of S6.out.res
  have fz := fun j => frozen_of_row w6 w.heap.size j _ _ S6.out.res
  have hlo := S6.out.lo
  have hltz := S6.out.lt
  refine wpAnyH_ready (rs := [12]) (by kernel_rfl) (by simp) ?_
  refine allReadyH_cons' rfl (fun Kn hKn => ?_) AllReadyH.nil
  go_simp
  refine hKn.out _ _ (two_of HD.out.box) (fun hHeldN => ?_)
  clear hKn Kn hHeld
  have hHeld := hHeldN
  clear hHeldN
  try simp only [Act.put, List.setIfInBounds_toArray, List.set_cons_zero, List.set_cons_succ]
  refine wpAnyH_take' (i := 13) (v := ?_) rfl (by kernel_rfl) (by kernel_rfl) (by kernel_rfl) (fun _ _ _ h => h) (Or.inl ⟨by rfl, ?_⟩) (by assumption) ?_
  rotate_left
  · (intro w' hSw; (try dsimp only at hSw); go_simp; all_goals with_reducible rfl)
  try simp only [Act.put, List.setIfInBounds_toArray, List.set_cons_zero, List.set_cons_succ]
  refine wpAnyH_take' (i := 14) (v := ?_) rfl (by kernel_rfl) (by kernel_rfl) (by kernel_rfl) (fun _ _ _ h => h) (Or.inl ⟨by rfl, ?_⟩) (by assumption) ?_
  rotate_left
  · (intro w' hSw; (try dsimp only at hSw); go_simp; all_goals with_reducible rfl)
  try simp only [Act.put, List.setIfInBounds_toArray, List.set_cons_zero, List.set_cons_succ]
  refine wpAnyH_take' (i := 15) (v := ?_) rfl (by kernel_rfl) (by kernel_rfl) (by kernel_rfl) (fun _ _ _ h => h) (Or.inl ⟨by rfl, ?_⟩) (by assumption) ?_
  rotate_left
  · (intro w' hSw; (try dsimp only at hSw); go_simp; all_goals with_reducible rfl)
  try simp only [Act.put, List.setIfInBounds_toArray, List.set_cons_zero, List.set_cons_succ]
  refine wpAnyH_take' (i := 16) (v := ?_) rfl (by kernel_rfl) (by kernel_rfl) (by kernel_rfl) (fun _ _ _ h => h) (Or.inl ⟨by rfl, ?_⟩) (by assumption) ?_
  rotate_left
  · (intro w' hSw; (try dsimp only at hSw); go_simp; all_goals with_reducible rfl)
  try simp only [Act.put, List.setIfInBounds_toArray, List.set_cons_zero, List.set_cons_succ]
  refine wpAnyH_done (by kernel_rfl) ?_ _
  refine NoPanic.normal ?_
  clear hHeld
  go_wp2
  refine bodyPost_ret (v := .tuple #[.agg #[.int .i64 N, .slice a m c], .int .i64 v1, .slice a2 m2 c2, .slice a3 m3 c3, .int .i64 v4]) (by simp [results, Try.results36, go_sem, *]) rfl ⟨N, a, m, c, L, v1, a2, m2, c2, l2, a3, m3, c3, l3, v4, rfl, OwnS.mono HD.out.own (by omega), P2.out.mono (by omega), P3.out.mono (by omega), ⟨⟨by omega, by omega⟩, by omega, by omega, by omega⟩, HD.out.bel⟩

set_option maxRecDepth 100000 in
set_option maxHeartbeats 8000000 in
theorem s_DrawPressuresOf (a0 : Option Addr) (n0 c0 : Nat) (w : World) (h : BytesAt w a0 n0) :
    Calls Try.prog 49 #[.slice a0 n0 c0] w fun e w' => ∃ (N : Int) (a : Option Addr) (m c : Nat) (L : List Pip) (v1 : Int) (a2 : Option Addr) (m2 c2 : Nat) (l2 : List Int) (v3 : Int) (a4 : Option Addr) (m4 c4 : Nat) (l4 : List Int), e = .returned (.tuple #[.agg #[.int .i64 N, .slice a m c], .int .i64 v1, .slice a2 m2 c2, .int .i64 v3, .slice a4 m4 c4]) ∧ OwnQ w' w.heap.size (.slice a m c) L ∧ OwnI w' w.heap.size (.slice a2 m2 c2) l2 ∧ OwnI w' w.heap.size (.slice a4 m4 c4) l4 ∧ ((0 ≤ N ∧ N ≤ 9) ∧ m ≤ 11 ∧ m2 ≤ 1001 ∧ m4 ≤ 1001) ∧ Below w.heap.size w w' := by
  have H := hid h
  clear h
  have T0 := hid (heap_alloc_new w (.cells #[.int .i64 0, .slice none 0 0] 26))
  go_enter Try.func49, Try.ntmps49
  go_upto_region 2 with fail
  have B0 := hid (by go_grown : Below w.heap.size w ((w.alloc (.cells #[.int .i64 0, .slice none 0 0] 26)).alloc (.cells #[.slice a0 n0 c0, .int .i64 0, .int .u64 0] 80)))
  have C0 := hid (Cur.start (c := c0) (g := w.heap.size + 1) (H.out.below (by go_grown : Below w.heap.size w (w.alloc (.cells #[.int .i64 0, .slice none 0 0] 26)))) (by simp))
  have R0 := hid (mid_new w (.cells #[.int .i64 0, .slice none 0 0] 26) (.cells #[.slice a0 n0 c0, .int .i64 0, .int .u64 0] 80) w.heap.size rfl)
  have hz0 : w.heap.size + 1 < ((w.alloc (.cells #[.int .i64 0, .slice none 0 0] 26)).alloc (.cells #[.slice a0 n0 c0, .int .i64 0, .int .u64 0] 80)).heap.size := by simp
  obtain ⟨g, hgg⟩ : ∃ g, w.heap.size + 1 = g := ⟨_, rfl⟩
  rw [hgg] at C0 hz0 ⊢
  generalize (w.alloc (.cells #[.int .i64 0, .slice none 0 0] 26)).alloc (.cells #[.slice a0 n0 c0, .int .i64 0, .int .u64 0] 80) = w0 at *
  have hwg : w.heap.size < g := by omega
  clear hgg
  go_wp2_with fail
  refine (c_treeNetwork g 0 _ C0.out (by omega)).mono ?_
  rintro e w1 ⟨⟨N, a, m, c, rfl, ⟨hN0, hN1, hm⟩, L, ho⟩, hc1, hg1⟩
  have hz1 := hg1.size
  have S2 := hid (show DB w (w1.alloc (.cells #[.int .i64 N, .slice a m c] 26)) g w1.heap.size (0 + 500) N a m c L from
    ⟨hc1.below (by go_grown), bstep (Below.grown B0.out hg1 B0.out.size (fun q e => by have := Option.some.inj e; omega)) (by go_grown), heap_alloc_new _ _, (Below.heap_alloc _ _ _ (by omega)).trans ((hg1.block w.heap.size (by omega) (fun e => by have := Option.some.inj e; omega)).trans R0.out), OwnS.mono (OwnS.below ho (by go_grown)) (by omega), fun k e => by have := OwnS.lt ho k e; omega, by omega⟩)
  clear hc1 hg1 ho
  go_upto_region 3 with fail
  obtain ⟨b, hb⟩ : ∃ b, w1.heap.size = b := ⟨_, rfl⟩
  rw [hb] at S2 ⊢
  generalize w1.alloc (.cells #[.int .i64 N, .slice a m c] 26) = w2 at *
  clear hb hz1
  obtain ⟨y0, y1⟩ := two_of S2.out.box
  have hlt2 := S2.out.lt
  refine wp_region_noPanic ?_
  refine wp_region_held_drew (S := (fun w' => w'.cell? ⟨b, 0, none⟩ = some (.int .i64 N) ∧ w'.cell? ⟨b, 1, none⟩ = some (.slice a m c))) (by kernel_rfl) (by exact ⟨y0, y1⟩) (fun hHeld => ?_)
  refine wpAnyH_take' (i := 0) (v := ?_) rfl (by kernel_rfl) (by kernel_rfl) (by kernel_rfl) (fun _ _ _ h => h) (Or.inl ⟨by rfl, ?_⟩) (by assumption) ?_
  rotate_left
  · (intro w' hSw; (try dsimp only at hSw); go_simp; all_goals with_reducible rfl)
  try simp only [Act.put, List.setIfInBounds_toArray, List.set_cons_zero, List.set_cons_succ]
  refine wpAnyH_take' (i := 1) (v := ?_) rfl (by kernel_rfl) (by kernel_rfl) (by kernel_rfl) (fun _ _ _ h => h) (Or.inl ⟨by rfl, ?_⟩) (by assumption) ?_
  rotate_left
  · (intro w' hSw; (try dsimp only at hSw); go_simp; all_goals with_reducible rfl)
  try simp only [Act.put, List.setIfInBounds_toArray, List.set_cons_zero, List.set_cons_succ]
  refine wpAnyH_take' (i := 2) (v := ?_) rfl (by kernel_rfl) (by kernel_rfl) (by kernel_rfl) (fun _ _ _ h => h) (Or.inl ⟨by rfl, ?_⟩) (by assumption) ?_
  rotate_left
  · (intro w' hSw; (try dsimp only at hSw); go_simp; all_goals with_reducible rfl)
  try simp only [Act.put, List.setIfInBounds_toArray, List.set_cons_zero, List.set_cons_succ]
  refine wpAnyH_take' (i := 4) (v := ?_) rfl (by kernel_rfl) (by kernel_rfl) (by kernel_rfl) (fun _ _ _ h => h) (Or.inl ⟨by rfl, ?_⟩) (by assumption) ?_
  rotate_left
  · (intro w' hSw; (try dsimp only at hSw); go_simp; all_goals with_reducible rfl)
  try simp only [Act.put, List.setIfInBounds_toArray, List.set_cons_zero, List.set_cons_succ]
  refine wpAnyH_take' (i := 5) (v := ?_) rfl (by kernel_rfl) (by kernel_rfl) (by kernel_rfl) (fun _ _ _ h => h) (Or.inl ⟨by rfl, ?_⟩) (by assumption) ?_
  rotate_left
  · (intro w' hSw; (try dsimp only at hSw); go_simp; all_goals with_reducible rfl)
  try simp only [Act.put, List.setIfInBounds_toArray, List.set_cons_zero, List.set_cons_succ]
  refine wpAnyH_take' (i := 7) (v := ?_) rfl (by kernel_rfl) (by kernel_rfl) (by kernel_rfl) (fun _ _ _ h => h) (Or.inl ⟨by rfl, ?_⟩) (by assumption) ?_
  rotate_left
  · (intro w' hSw; (try dsimp only at hSw); go_simp; all_goals with_reducible rfl)
  try simp only [Act.put, List.setIfInBounds_toArray, List.set_cons_zero, List.set_cons_succ]
  refine wpAnyH_take' (i := 9) (v := ?_) rfl (by kernel_rfl) (by kernel_rfl) (by kernel_rfl) (fun _ _ _ h => h) (Or.inl ⟨by rfl, ?_⟩) (by assumption) ?_
  rotate_left
  · (intro w' hSw; (try dsimp only at hSw); go_simp; all_goals with_reducible rfl)
  try simp only [Act.put, List.setIfInBounds_toArray, List.set_cons_zero, List.set_cons_succ]
  refine wpAnyH_take' (i := 10) (v := ?_) rfl (by kernel_rfl) (by kernel_rfl) (by kernel_rfl) (fun _ _ _ h => h) (Or.inl ⟨by rfl, ?_⟩) (by assumption) ?_
  rotate_left
  · (intro w' hSw; (try dsimp only at hSw); go_simp; all_goals with_reducible rfl)
  try simp only [Act.put, List.setIfInBounds_toArray, List.set_cons_zero, List.set_cons_succ]
  refine wpAnyH_ready (rs := [3]) (by kernel_rfl) (by simp) ?_
  refine allReadyH_cons' rfl (fun Kn hKn => ?_) AllReadyH.nil
  go_simp
  go_at_call 63
  refine (c_nodeOf g _ N _ _ _ _ (S2.out.below (by go_grown)).cur (by omega) (by omega)).mono ?_
  rintro e w3 ⟨⟨v1, rfl⟩, hc, hg⟩
  have S3 := hid ((S2.out.below (by go_grown)).step hc hg)
  clear hc hg y0 y1 S2
  obtain ⟨y0, y1⟩ := two_of S3.out.box
  have hlt3 := S3.out.lt
  refine hKn.out _ _ ⟨y0, y1⟩ (fun hHeldN => ?_)
  clear hKn Kn hHeld
  have hHeld := hHeldN
  clear hHeldN
  try simp only [Act.put, List.setIfInBounds_toArray, List.set_cons_zero, List.set_cons_succ]
  refine wpAnyH_ready (rs := [6]) (by kernel_rfl) (by simp) ?_
  refine allReadyH_cons' rfl (fun Kn hKn => ?_) AllReadyH.nil
  go_simp
  go_at_call 64
  refine (c_demands g _ N _ _ _ _ (S3.out.below (by go_grown)).cur (by omega) (by omega)).mono ?_
  rintro e w4 ⟨⟨a2, m2, c2, l2, rfl, ho, hm2⟩, hc, hg⟩
  have S4 := hid ((S3.out.below (by go_grown)).step hc hg)
  have O2_4 := hid (LB.new (w := w) (g := g) ho (by have := S3.out.cur.lt; simp; omega) (by have := S3.out.lt; simp; omega))
  clear ho
  clear hc hg y0 y1 S3
  obtain ⟨y0, y1⟩ := two_of S4.out.box
  have hlt4 := S4.out.lt
  refine hKn.out _ _ ⟨y0, y1⟩ (fun hHeldN => ?_)
  clear hKn Kn hHeld
  have hHeld := hHeldN
  clear hHeldN
  try simp only [Act.put, List.setIfInBounds_toArray, List.set_cons_zero, List.set_cons_succ]
  refine wpAnyH_ready (rs := [8]) (by kernel_rfl) (by simp) ?_
  refine allReadyH_cons' rfl (fun Kn hKn => ?_) AllReadyH.nil
  go_simp
  go_at_call 100
  refine (c_head g _ _ (S4.out.below (by go_grown)).cur (by omega)).mono ?_
  rintro e w5 ⟨⟨v3, rfl⟩, hc, hg⟩
  have S5 := hid ((S4.out.below (by go_grown)).step hc hg)
  have O2_5 := hid ((O2_4.out.below (by go_grown)).step hg)
  clear O2_4
  clear hc hg y0 y1 S4
  obtain ⟨y0, y1⟩ := two_of S5.out.box
  have hlt5 := S5.out.lt
  refine hKn.out _ _ ⟨y0, y1⟩ (fun hHeldN => ?_)
  clear hKn Kn hHeld
  have hHeld := hHeldN
  clear hHeldN
  try simp only [Act.put, List.setIfInBounds_toArray, List.set_cons_zero, List.set_cons_succ]
  refine wpAnyH_ready (rs := [11]) (by kernel_rfl) (by simp) ?_
  refine allReadyH_cons' rfl (fun Kn hKn => ?_) AllReadyH.nil
  go_simp
  go_at_call 109
  refine (c_heights g _ N _ _ _ _ (S5.out.below (by go_grown)).cur (by omega) (by omega)).mono ?_
  rintro e w6 ⟨⟨a4, m4, c4, l4, rfl, ho, hm4⟩, hc, hg⟩
  have S6 := hid ((S5.out.below (by go_grown)).step hc hg)
  have O2_6 := hid ((O2_5.out.below (by go_grown)).step hg)
  clear O2_5
  have O4_6 := hid (LB.new (w := w) (g := g) ho (by have := S5.out.cur.lt; simp; omega) (by have := S5.out.lt; simp; omega))
  clear ho
  clear hc hg y0 y1 S5
  obtain ⟨y0, y1⟩ := two_of S6.out.box
  have hlt6 := S6.out.lt
  refine hKn.out _ _ ⟨y0, y1⟩ (fun hHeldN => ?_)
  clear hKn Kn hHeld
  have hHeld := hHeldN
  clear hHeldN
  try simp only [Act.put, List.setIfInBounds_toArray, List.set_cons_zero, List.set_cons_succ]
  have HD := hid (S6.out.put (u := .int .i64 N) (v := .slice a m c))
  have P2 := hid (O2_6.out.put (u := .int .i64 N) (v := .slice a m c))
  have P4 := hid (O4_6.out.put (u := .int .i64 N) (v := .slice a m c))
  obtain ⟨z0, z1⟩ := two_of S6.out.res
  have fz := fun j => frozen_of_row w6 w.heap.size j _ _ S6.out.res
  have hlo := S6.out.lo
  have hltz := S6.out.lt
  refine wpAnyH_ready (rs := [12]) (by kernel_rfl) (by simp) ?_
  refine allReadyH_cons' rfl (fun Kn hKn => ?_) AllReadyH.nil
  go_simp
  refine hKn.out _ _ (two_of HD.out.box) (fun hHeldN => ?_)
  clear hKn Kn hHeld
  have hHeld := hHeldN
  clear hHeldN
  try simp only [Act.put, List.setIfInBounds_toArray, List.set_cons_zero, List.set_cons_succ]
  refine wpAnyH_take' (i := 13) (v := ?_) rfl (by kernel_rfl) (by kernel_rfl) (by kernel_rfl) (fun _ _ _ h => h) (Or.inl ⟨by rfl, ?_⟩) (by assumption) ?_
  rotate_left
  · (intro w' hSw; (try dsimp only at hSw); go_simp; all_goals with_reducible rfl)
  try simp only [Act.put, List.setIfInBounds_toArray, List.set_cons_zero, List.set_cons_succ]
  refine wpAnyH_take' (i := 14) (v := ?_) rfl (by kernel_rfl) (by kernel_rfl) (by kernel_rfl) (fun _ _ _ h => h) (Or.inl ⟨by rfl, ?_⟩) (by assumption) ?_
  rotate_left
  · (intro w' hSw; (try dsimp only at hSw); go_simp; all_goals with_reducible rfl)
  try simp only [Act.put, List.setIfInBounds_toArray, List.set_cons_zero, List.set_cons_succ]
  refine wpAnyH_take' (i := 15) (v := ?_) rfl (by kernel_rfl) (by kernel_rfl) (by kernel_rfl) (fun _ _ _ h => h) (Or.inl ⟨by rfl, ?_⟩) (by assumption) ?_
  rotate_left
  · (intro w' hSw; (try dsimp only at hSw); go_simp; all_goals with_reducible rfl)
  try simp only [Act.put, List.setIfInBounds_toArray, List.set_cons_zero, List.set_cons_succ]
  refine wpAnyH_take' (i := 16) (v := ?_) rfl (by kernel_rfl) (by kernel_rfl) (by kernel_rfl) (fun _ _ _ h => h) (Or.inl ⟨by rfl, ?_⟩) (by assumption) ?_
  rotate_left
  · (intro w' hSw; (try dsimp only at hSw); go_simp; all_goals with_reducible rfl)
  try simp only [Act.put, List.setIfInBounds_toArray, List.set_cons_zero, List.set_cons_succ]
  refine wpAnyH_done (by kernel_rfl) ?_ _
  refine NoPanic.normal ?_
  clear hHeld
  go_wp2
  refine bodyPost_ret (v := .tuple #[.agg #[.int .i64 N, .slice a m c], .int .i64 v1, .slice a2 m2 c2, .int .i64 v3, .slice a4 m4 c4]) (by simp [results, Try.results49, go_sem, *]) rfl ⟨N, a, m, c, L, v1, a2, m2, c2, l2, v3, a4, m4, c4, l4, rfl, OwnS.mono HD.out.own (by omega), P2.out.mono (by omega), P4.out.mono (by omega), ⟨⟨by omega, by omega⟩, by omega, by omega, by omega⟩, HD.out.bel⟩

set_option maxRecDepth 100000 in
set_option maxHeartbeats 8000000 in
theorem s_DrawWeakNodes (a0 : Option Addr) (n0 c0 : Nat) (w : World) (h : BytesAt w a0 n0) :
    Calls Try.prog 40 #[.slice a0 n0 c0] w fun e w' => ∃ (N : Int) (a : Option Addr) (m c : Nat) (L : List Pip) (v1 : Int) (a2 : Option Addr) (m2 c2 : Nat) (l2 : List Int) (v3 : Int) (a4 : Option Addr) (m4 c4 : Nat) (l4 : List Int) (v5 : Int), e = .returned (.tuple #[.agg #[.int .i64 N, .slice a m c], .int .i64 v1, .slice a2 m2 c2, .int .i64 v3, .slice a4 m4 c4, .int .i64 v5]) ∧ OwnQ w' w.heap.size (.slice a m c) L ∧ OwnI w' w.heap.size (.slice a2 m2 c2) l2 ∧ OwnI w' w.heap.size (.slice a4 m4 c4) l4 ∧ ((0 ≤ N ∧ N ≤ 9) ∧ m ≤ 11 ∧ m2 ≤ 1001 ∧ m4 ≤ 1001) ∧ Below w.heap.size w w' := by
  have H := hid h
  clear h
  have T0 := hid (heap_alloc_new w (.cells #[.int .i64 0, .slice none 0 0] 26))
  go_enter Try.func40, Try.ntmps40
  go_upto_region 2 with fail
  have B0 := hid (by go_grown : Below w.heap.size w ((w.alloc (.cells #[.int .i64 0, .slice none 0 0] 26)).alloc (.cells #[.slice a0 n0 c0, .int .i64 0, .int .u64 0] 80)))
  have C0 := hid (Cur.start (c := c0) (g := w.heap.size + 1) (H.out.below (by go_grown : Below w.heap.size w (w.alloc (.cells #[.int .i64 0, .slice none 0 0] 26)))) (by simp))
  have R0 := hid (mid_new w (.cells #[.int .i64 0, .slice none 0 0] 26) (.cells #[.slice a0 n0 c0, .int .i64 0, .int .u64 0] 80) w.heap.size rfl)
  have hz0 : w.heap.size + 1 < ((w.alloc (.cells #[.int .i64 0, .slice none 0 0] 26)).alloc (.cells #[.slice a0 n0 c0, .int .i64 0, .int .u64 0] 80)).heap.size := by simp
  obtain ⟨g, hgg⟩ : ∃ g, w.heap.size + 1 = g := ⟨_, rfl⟩
  rw [hgg] at C0 hz0 ⊢
  generalize (w.alloc (.cells #[.int .i64 0, .slice none 0 0] 26)).alloc (.cells #[.slice a0 n0 c0, .int .i64 0, .int .u64 0] 80) = w0 at *
  have hwg : w.heap.size < g := by omega
  clear hgg
  go_wp2_with fail
  refine (c_treeNetwork g 0 _ C0.out (by omega)).mono ?_
  rintro e w1 ⟨⟨N, a, m, c, rfl, ⟨hN0, hN1, hm⟩, L, ho⟩, hc1, hg1⟩
  have hz1 := hg1.size
  have S2 := hid (show DB w (w1.alloc (.cells #[.int .i64 N, .slice a m c] 26)) g w1.heap.size (0 + 500) N a m c L from
    ⟨hc1.below (by go_grown), bstep (Below.grown B0.out hg1 B0.out.size (fun q e => by have := Option.some.inj e; omega)) (by go_grown), heap_alloc_new _ _, (Below.heap_alloc _ _ _ (by omega)).trans ((hg1.block w.heap.size (by omega) (fun e => by have := Option.some.inj e; omega)).trans R0.out), OwnS.mono (OwnS.below ho (by go_grown)) (by omega), fun k e => by have := OwnS.lt ho k e; omega, by omega⟩)
  clear hc1 hg1 ho
  go_upto_region 3 with fail
  obtain ⟨b, hb⟩ : ∃ b, w1.heap.size = b := ⟨_, rfl⟩
  rw [hb] at S2 ⊢
  generalize w1.alloc (.cells #[.int .i64 N, .slice a m c] 26) = w2 at *
  clear hb hz1
  obtain ⟨y0, y1⟩ := two_of S2.out.box
  have hlt2 := S2.out.lt
  refine wp_region_noPanic ?_
  refine wp_region_held_drew (S := (fun w' => w'.cell? ⟨b, 0, none⟩ = some (.int .i64 N) ∧ w'.cell? ⟨b, 1, none⟩ = some (.slice a m c))) (by kernel_rfl) (by exact ⟨y0, y1⟩) (fun hHeld => ?_)
  refine wpAnyH_take' (i := 0) (v := ?_) rfl (by kernel_rfl) (by kernel_rfl) (by kernel_rfl) (fun _ _ _ h => h) (Or.inl ⟨by rfl, ?_⟩) (by assumption) ?_
  rotate_left
  · (intro w' hSw; (try dsimp only at hSw); go_simp; all_goals with_reducible rfl)
  try simp only [Act.put, List.setIfInBounds_toArray, List.set_cons_zero, List.set_cons_succ]
  refine wpAnyH_take' (i := 1) (v := ?_) rfl (by kernel_rfl) (by kernel_rfl) (by kernel_rfl) (fun _ _ _ h => h) (Or.inl ⟨by rfl, ?_⟩) (by assumption) ?_
  rotate_left
  · (intro w' hSw; (try dsimp only at hSw); go_simp; all_goals with_reducible rfl)
  try simp only [Act.put, List.setIfInBounds_toArray, List.set_cons_zero, List.set_cons_succ]
  refine wpAnyH_take' (i := 2) (v := ?_) rfl (by kernel_rfl) (by kernel_rfl) (by kernel_rfl) (fun _ _ _ h => h) (Or.inl ⟨by rfl, ?_⟩) (by assumption) ?_
  rotate_left
  · (intro w' hSw; (try dsimp only at hSw); go_simp; all_goals with_reducible rfl)
  try simp only [Act.put, List.setIfInBounds_toArray, List.set_cons_zero, List.set_cons_succ]
  refine wpAnyH_take' (i := 4) (v := ?_) rfl (by kernel_rfl) (by kernel_rfl) (by kernel_rfl) (fun _ _ _ h => h) (Or.inl ⟨by rfl, ?_⟩) (by assumption) ?_
  rotate_left
  · (intro w' hSw; (try dsimp only at hSw); go_simp; all_goals with_reducible rfl)
  try simp only [Act.put, List.setIfInBounds_toArray, List.set_cons_zero, List.set_cons_succ]
  refine wpAnyH_take' (i := 5) (v := ?_) rfl (by kernel_rfl) (by kernel_rfl) (by kernel_rfl) (fun _ _ _ h => h) (Or.inl ⟨by rfl, ?_⟩) (by assumption) ?_
  rotate_left
  · (intro w' hSw; (try dsimp only at hSw); go_simp; all_goals with_reducible rfl)
  try simp only [Act.put, List.setIfInBounds_toArray, List.set_cons_zero, List.set_cons_succ]
  refine wpAnyH_take' (i := 7) (v := ?_) rfl (by kernel_rfl) (by kernel_rfl) (by kernel_rfl) (fun _ _ _ h => h) (Or.inl ⟨by rfl, ?_⟩) (by assumption) ?_
  rotate_left
  · (intro w' hSw; (try dsimp only at hSw); go_simp; all_goals with_reducible rfl)
  try simp only [Act.put, List.setIfInBounds_toArray, List.set_cons_zero, List.set_cons_succ]
  refine wpAnyH_take' (i := 9) (v := ?_) rfl (by kernel_rfl) (by kernel_rfl) (by kernel_rfl) (fun _ _ _ h => h) (Or.inl ⟨by rfl, ?_⟩) (by assumption) ?_
  rotate_left
  · (intro w' hSw; (try dsimp only at hSw); go_simp; all_goals with_reducible rfl)
  try simp only [Act.put, List.setIfInBounds_toArray, List.set_cons_zero, List.set_cons_succ]
  refine wpAnyH_take' (i := 10) (v := ?_) rfl (by kernel_rfl) (by kernel_rfl) (by kernel_rfl) (fun _ _ _ h => h) (Or.inl ⟨by rfl, ?_⟩) (by assumption) ?_
  rotate_left
  · (intro w' hSw; (try dsimp only at hSw); go_simp; all_goals with_reducible rfl)
  try simp only [Act.put, List.setIfInBounds_toArray, List.set_cons_zero, List.set_cons_succ]
  refine wpAnyH_take' (i := 12) (v := ?_) rfl (by kernel_rfl) (by kernel_rfl) (by kernel_rfl) (fun _ _ _ h => h) (Or.inl ⟨by rfl, ?_⟩) (by assumption) ?_
  rotate_left
  · (intro w' hSw; (try dsimp only at hSw); go_simp; all_goals with_reducible rfl)
  try simp only [Act.put, List.setIfInBounds_toArray, List.set_cons_zero, List.set_cons_succ]
  refine wpAnyH_ready (rs := [3]) (by kernel_rfl) (by simp) ?_
  refine allReadyH_cons' rfl (fun Kn hKn => ?_) AllReadyH.nil
  go_simp
  go_at_call 63
  refine (c_nodeOf g _ N _ _ _ _ (S2.out.below (by go_grown)).cur (by omega) (by omega)).mono ?_
  rintro e w3 ⟨⟨v1, rfl⟩, hc, hg⟩
  have S3 := hid ((S2.out.below (by go_grown)).step hc hg)
  clear hc hg y0 y1 S2
  obtain ⟨y0, y1⟩ := two_of S3.out.box
  have hlt3 := S3.out.lt
  refine hKn.out _ _ ⟨y0, y1⟩ (fun hHeldN => ?_)
  clear hKn Kn hHeld
  have hHeld := hHeldN
  clear hHeldN
  try simp only [Act.put, List.setIfInBounds_toArray, List.set_cons_zero, List.set_cons_succ]
  refine wpAnyH_ready (rs := [6]) (by kernel_rfl) (by simp) ?_
  refine allReadyH_cons' rfl (fun Kn hKn => ?_) AllReadyH.nil
  go_simp
  go_at_call 64
  refine (c_demands g _ N _ _ _ _ (S3.out.below (by go_grown)).cur (by omega) (by omega)).mono ?_
  rintro e w4 ⟨⟨a2, m2, c2, l2, rfl, ho, hm2⟩, hc, hg⟩
  have S4 := hid ((S3.out.below (by go_grown)).step hc hg)
  have O2_4 := hid (LB.new (w := w) (g := g) ho (by have := S3.out.cur.lt; simp; omega) (by have := S3.out.lt; simp; omega))
  clear ho
  clear hc hg y0 y1 S3
  obtain ⟨y0, y1⟩ := two_of S4.out.box
  have hlt4 := S4.out.lt
  refine hKn.out _ _ ⟨y0, y1⟩ (fun hHeldN => ?_)
  clear hKn Kn hHeld
  have hHeld := hHeldN
  clear hHeldN
  try simp only [Act.put, List.setIfInBounds_toArray, List.set_cons_zero, List.set_cons_succ]
  refine wpAnyH_ready (rs := [8]) (by kernel_rfl) (by simp) ?_
  refine allReadyH_cons' rfl (fun Kn hKn => ?_) AllReadyH.nil
  go_simp
  go_at_call 100
  refine (c_head g _ _ (S4.out.below (by go_grown)).cur (by omega)).mono ?_
  rintro e w5 ⟨⟨v3, rfl⟩, hc, hg⟩
  have S5 := hid ((S4.out.below (by go_grown)).step hc hg)
  have O2_5 := hid ((O2_4.out.below (by go_grown)).step hg)
  clear O2_4
  clear hc hg y0 y1 S4
  obtain ⟨y0, y1⟩ := two_of S5.out.box
  have hlt5 := S5.out.lt
  refine hKn.out _ _ ⟨y0, y1⟩ (fun hHeldN => ?_)
  clear hKn Kn hHeld
  have hHeld := hHeldN
  clear hHeldN
  try simp only [Act.put, List.setIfInBounds_toArray, List.set_cons_zero, List.set_cons_succ]
  refine wpAnyH_ready (rs := [11]) (by kernel_rfl) (by simp) ?_
  refine allReadyH_cons' rfl (fun Kn hKn => ?_) AllReadyH.nil
  go_simp
  go_at_call 109
  refine (c_heights g _ N _ _ _ _ (S5.out.below (by go_grown)).cur (by omega) (by omega)).mono ?_
  rintro e w6 ⟨⟨a4, m4, c4, l4, rfl, ho, hm4⟩, hc, hg⟩
  have S6 := hid ((S5.out.below (by go_grown)).step hc hg)
  have O2_6 := hid ((O2_5.out.below (by go_grown)).step hg)
  clear O2_5
  have O4_6 := hid (LB.new (w := w) (g := g) ho (by have := S5.out.cur.lt; simp; omega) (by have := S5.out.lt; simp; omega))
  clear ho
  clear hc hg y0 y1 S5
  obtain ⟨y0, y1⟩ := two_of S6.out.box
  have hlt6 := S6.out.lt
  refine hKn.out _ _ ⟨y0, y1⟩ (fun hHeldN => ?_)
  clear hKn Kn hHeld
  have hHeld := hHeldN
  clear hHeldN
  try simp only [Act.put, List.setIfInBounds_toArray, List.set_cons_zero, List.set_cons_succ]
  refine wpAnyH_ready (rs := [13]) (by kernel_rfl) (by simp) ?_
  refine allReadyH_cons' rfl (fun Kn hKn => ?_) AllReadyH.nil
  go_simp
  go_at_call 100
  refine (c_head g _ _ (S6.out.below (by go_grown)).cur (by omega)).mono ?_
  rintro e w7 ⟨⟨v5, rfl⟩, hc, hg⟩
  have S7 := hid ((S6.out.below (by go_grown)).step hc hg)
  have O2_7 := hid ((O2_6.out.below (by go_grown)).step hg)
  clear O2_6
  have O4_7 := hid ((O4_6.out.below (by go_grown)).step hg)
  clear O4_6
  clear hc hg y0 y1 S6
  obtain ⟨y0, y1⟩ := two_of S7.out.box
  have hlt7 := S7.out.lt
  refine hKn.out _ _ ⟨y0, y1⟩ (fun hHeldN => ?_)
  clear hKn Kn hHeld
  have hHeld := hHeldN
  clear hHeldN
  try simp only [Act.put, List.setIfInBounds_toArray, List.set_cons_zero, List.set_cons_succ]
  have HD := hid (S7.out.put (u := .int .i64 N) (v := .slice a m c))
  have P2 := hid (O2_7.out.put (u := .int .i64 N) (v := .slice a m c))
  have P4 := hid (O4_7.out.put (u := .int .i64 N) (v := .slice a m c))
  obtain ⟨z0, z1⟩ := two_of S7.out.res
  have fz := fun j => frozen_of_row w7 w.heap.size j _ _ S7.out.res
  have hlo := S7.out.lo
  have hltz := S7.out.lt
  refine wpAnyH_ready (rs := [14]) (by kernel_rfl) (by simp) ?_
  refine allReadyH_cons' rfl (fun Kn hKn => ?_) AllReadyH.nil
  go_simp
  refine hKn.out _ _ (two_of HD.out.box) (fun hHeldN => ?_)
  clear hKn Kn hHeld
  have hHeld := hHeldN
  clear hHeldN
  try simp only [Act.put, List.setIfInBounds_toArray, List.set_cons_zero, List.set_cons_succ]
  refine wpAnyH_take' (i := 15) (v := ?_) rfl (by kernel_rfl) (by kernel_rfl) (by kernel_rfl) (fun _ _ _ h => h) (Or.inl ⟨by rfl, ?_⟩) (by assumption) ?_
  rotate_left
  · (intro w' hSw; (try dsimp only at hSw); go_simp; all_goals with_reducible rfl)
  try simp only [Act.put, List.setIfInBounds_toArray, List.set_cons_zero, List.set_cons_succ]
  refine wpAnyH_take' (i := 16) (v := ?_) rfl (by kernel_rfl) (by kernel_rfl) (by kernel_rfl) (fun _ _ _ h => h) (Or.inl ⟨by rfl, ?_⟩) (by assumption) ?_
  rotate_left
  · (intro w' hSw; (try dsimp only at hSw); go_simp; all_goals with_reducible rfl)
  try simp only [Act.put, List.setIfInBounds_toArray, List.set_cons_zero, List.set_cons_succ]
  refine wpAnyH_take' (i := 17) (v := ?_) rfl (by kernel_rfl) (by kernel_rfl) (by kernel_rfl) (fun _ _ _ h => h) (Or.inl ⟨by rfl, ?_⟩) (by assumption) ?_
  rotate_left
  · (intro w' hSw; (try dsimp only at hSw); go_simp; all_goals with_reducible rfl)
  try simp only [Act.put, List.setIfInBounds_toArray, List.set_cons_zero, List.set_cons_succ]
  refine wpAnyH_take' (i := 18) (v := ?_) rfl (by kernel_rfl) (by kernel_rfl) (by kernel_rfl) (fun _ _ _ h => h) (Or.inl ⟨by rfl, ?_⟩) (by assumption) ?_
  rotate_left
  · (intro w' hSw; (try dsimp only at hSw); go_simp; all_goals with_reducible rfl)
  try simp only [Act.put, List.setIfInBounds_toArray, List.set_cons_zero, List.set_cons_succ]
  refine wpAnyH_take' (i := 19) (v := ?_) rfl (by kernel_rfl) (by kernel_rfl) (by kernel_rfl) (fun _ _ _ h => h) (Or.inl ⟨by rfl, ?_⟩) (by assumption) ?_
  rotate_left
  · (intro w' hSw; (try dsimp only at hSw); go_simp; all_goals with_reducible rfl)
  try simp only [Act.put, List.setIfInBounds_toArray, List.set_cons_zero, List.set_cons_succ]
  refine wpAnyH_done (by kernel_rfl) ?_ _
  refine NoPanic.normal ?_
  clear hHeld
  go_wp2
  refine bodyPost_ret (v := .tuple #[.agg #[.int .i64 N, .slice a m c], .int .i64 v1, .slice a2 m2 c2, .int .i64 v3, .slice a4 m4 c4, .int .i64 v5]) (by simp [results, Try.results40, go_sem, *]) rfl ⟨N, a, m, c, L, v1, a2, m2, c2, l2, v3, a4, m4, c4, l4, v5, rfl, OwnS.mono HD.out.own (by omega), P2.out.mono (by omega), P4.out.mono (by omega), ⟨⟨by omega, by omega⟩, by omega, by omega, by omega⟩, HD.out.bel⟩

set_option maxRecDepth 100000 in
set_option maxHeartbeats 8000000 in
theorem s_DrawImbalanceAt (a0 : Option Addr) (n0 c0 : Nat) (w : World) (h : BytesAt w a0 n0) :
    Calls Try.prog 80 #[.slice a0 n0 c0] w fun e w' => ∃ (N : Int) (a : Option Addr) (m c : Nat) (L : List Pip) (v1 : Int) (a2 : Option Addr) (m2 c2 : Nat) (l2 : List Int) (a3 : Option Addr) (m3 c3 : Nat) (l3 : List Int) (v4 : Int), e = .returned (.tuple #[.agg #[.int .i64 N, .slice a m c], .int .i64 v1, .slice a2 m2 c2, .slice a3 m3 c3, .int .i64 v4]) ∧ OwnQ w' w.heap.size (.slice a m c) L ∧ OwnI w' w.heap.size (.slice a2 m2 c2) l2 ∧ OwnI w' w.heap.size (.slice a3 m3 c3) l3 ∧ ((0 ≤ N ∧ N ≤ 9) ∧ m ≤ 11 ∧ m2 ≤ 1001 ∧ m3 ≤ 1001) ∧ Below w.heap.size w w' := by
  have H := hid h
  clear h
  have T0 := hid (heap_alloc_new w (.cells #[.int .i64 0, .slice none 0 0] 26))
  go_enter Try.func80, Try.ntmps80
  go_upto_region 2 with fail
  have B0 := hid (by go_grown : Below w.heap.size w ((w.alloc (.cells #[.int .i64 0, .slice none 0 0] 26)).alloc (.cells #[.slice a0 n0 c0, .int .i64 0, .int .u64 0] 80)))
  have C0 := hid (Cur.start (c := c0) (g := w.heap.size + 1) (H.out.below (by go_grown : Below w.heap.size w (w.alloc (.cells #[.int .i64 0, .slice none 0 0] 26)))) (by simp))
  have R0 := hid (mid_new w (.cells #[.int .i64 0, .slice none 0 0] 26) (.cells #[.slice a0 n0 c0, .int .i64 0, .int .u64 0] 80) w.heap.size rfl)
  have hz0 : w.heap.size + 1 < ((w.alloc (.cells #[.int .i64 0, .slice none 0 0] 26)).alloc (.cells #[.slice a0 n0 c0, .int .i64 0, .int .u64 0] 80)).heap.size := by simp
  obtain ⟨g, hgg⟩ : ∃ g, w.heap.size + 1 = g := ⟨_, rfl⟩
  rw [hgg] at C0 hz0 ⊢
  generalize (w.alloc (.cells #[.int .i64 0, .slice none 0 0] 26)).alloc (.cells #[.slice a0 n0 c0, .int .i64 0, .int .u64 0] 80) = w0 at *
  have hwg : w.heap.size < g := by omega
  clear hgg
  go_wp2_with fail
  refine (c_treeNetwork g 0 _ C0.out (by omega)).mono ?_
  rintro e w1 ⟨⟨N, a, m, c, rfl, ⟨hN0, hN1, hm⟩, L, ho⟩, hc1, hg1⟩
  have hz1 := hg1.size
  have S2 := hid (show DB w (w1.alloc (.cells #[.int .i64 N, .slice a m c] 26)) g w1.heap.size (0 + 500) N a m c L from
    ⟨hc1.below (by go_grown), bstep (Below.grown B0.out hg1 B0.out.size (fun q e => by have := Option.some.inj e; omega)) (by go_grown), heap_alloc_new _ _, (Below.heap_alloc _ _ _ (by omega)).trans ((hg1.block w.heap.size (by omega) (fun e => by have := Option.some.inj e; omega)).trans R0.out), OwnS.mono (OwnS.below ho (by go_grown)) (by omega), fun k e => by have := OwnS.lt ho k e; omega, by omega⟩)
  clear hc1 hg1 ho
  go_upto_region 3 with fail
  obtain ⟨b, hb⟩ : ∃ b, w1.heap.size = b := ⟨_, rfl⟩
  rw [hb] at S2 ⊢
  generalize w1.alloc (.cells #[.int .i64 N, .slice a m c] 26) = w2 at *
  clear hb hz1
  obtain ⟨y0, y1⟩ := two_of S2.out.box
  have hlt2 := S2.out.lt
  refine wp_region_noPanic ?_
  refine wp_region_held_drew (S := (fun w' => w'.cell? ⟨b, 0, none⟩ = some (.int .i64 N) ∧ w'.cell? ⟨b, 1, none⟩ = some (.slice a m c))) (by kernel_rfl) (by exact ⟨y0, y1⟩) (fun hHeld => ?_)
  refine wpAnyH_take' (i := 0) (v := ?_) rfl (by kernel_rfl) (by kernel_rfl) (by kernel_rfl) (fun _ _ _ h => h) (Or.inl ⟨by rfl, ?_⟩) (by assumption) ?_
  rotate_left
  · (intro w' hSw; (try dsimp only at hSw); go_simp; all_goals with_reducible rfl)
  try simp only [Act.put, List.setIfInBounds_toArray, List.set_cons_zero, List.set_cons_succ]
  refine wpAnyH_take' (i := 1) (v := ?_) rfl (by kernel_rfl) (by kernel_rfl) (by kernel_rfl) (fun _ _ _ h => h) (Or.inl ⟨by rfl, ?_⟩) (by assumption) ?_
  rotate_left
  · (intro w' hSw; (try dsimp only at hSw); go_simp; all_goals with_reducible rfl)
  try simp only [Act.put, List.setIfInBounds_toArray, List.set_cons_zero, List.set_cons_succ]
  refine wpAnyH_take' (i := 3) (v := ?_) rfl (by kernel_rfl) (by kernel_rfl) (by kernel_rfl) (fun _ _ _ h => h) (Or.inl ⟨by rfl, ?_⟩) (by assumption) ?_
  rotate_left
  · (intro w' hSw; (try dsimp only at hSw); go_simp; all_goals with_reducible rfl)
  try simp only [Act.put, List.setIfInBounds_toArray, List.set_cons_zero, List.set_cons_succ]
  refine wpAnyH_take' (i := 4) (v := ?_) rfl (by kernel_rfl) (by kernel_rfl) (by kernel_rfl) (fun _ _ _ h => h) (Or.inl ⟨by rfl, ?_⟩) (by assumption) ?_
  rotate_left
  · (intro w' hSw; (try dsimp only at hSw); go_simp; all_goals with_reducible rfl)
  try simp only [Act.put, List.setIfInBounds_toArray, List.set_cons_zero, List.set_cons_succ]
  refine wpAnyH_ready (rs := [2]) (by kernel_rfl) (by simp) ?_
  refine allReadyH_cons' rfl (fun Kn hKn => ?_) AllReadyH.nil
  go_simp
  go_at_call 63
  refine (c_nodeOf g _ N _ _ _ _ (S2.out.below (by go_grown)).cur (by omega) (by omega)).mono ?_
  rintro e w3 ⟨⟨v1, rfl⟩, hc, hg⟩
  have S3 := hid ((S2.out.below (by go_grown)).step hc hg)
  clear hc hg y0 y1 S2
  obtain ⟨y0, y1⟩ := two_of S3.out.box
  have hlt3 := S3.out.lt
  refine hKn.out _ _ ⟨y0, y1⟩ (fun hHeldN => ?_)
  clear hKn Kn hHeld
  have hHeld := hHeldN
  clear hHeldN
  try simp only [Act.put, List.setIfInBounds_toArray, List.set_cons_zero, List.set_cons_succ]
  refine wpAnyH_ready (rs := [5]) (by kernel_rfl) (by simp) ?_
  refine allReadyH_cons' rfl (fun Kn hKn => ?_) AllReadyH.nil
  go_simp
  go_at_call 64
  refine (c_demands g _ N _ _ _ _ (S3.out.below (by go_grown)).cur (by omega) (by omega)).mono ?_
  rintro e w4 ⟨⟨a2, m2, c2, l2, rfl, ho, hm2⟩, hc, hg⟩
  have S4 := hid ((S3.out.below (by go_grown)).step hc hg)
  have O2_4 := hid (LB.new (w := w) (g := g) ho (by have := S3.out.cur.lt; simp; omega) (by have := S3.out.lt; simp; omega))
  clear ho
  clear hc hg y0 y1 S3
  obtain ⟨y0, y1⟩ := two_of S4.out.box
  have hlt4 := S4.out.lt
  refine hKn.out _ _ ⟨y0, y1⟩ (fun hHeldN => ?_)
  clear hKn Kn hHeld
  have hHeld := hHeldN
  clear hHeldN
  try simp only [Act.put, List.setIfInBounds_toArray, List.set_cons_zero, List.set_cons_succ]
  refine wpAnyH_take' (i := 6) (v := ?_) rfl (by kernel_rfl) (by kernel_rfl) (by kernel_rfl) (fun _ _ _ h => h) (Or.inl ⟨by rfl, ?_⟩) (by assumption) ?_
  rotate_left
  · (intro w' hSw; (try dsimp only at hSw); go_simp; all_goals with_reducible rfl)
  try simp only [Act.put, List.setIfInBounds_toArray, List.set_cons_zero, List.set_cons_succ]
  refine wpAnyH_take' (i := 7) (v := ?_) rfl (by kernel_rfl) (by kernel_rfl) (by kernel_rfl) (fun _ _ _ h => h) (Or.inl ⟨by rfl, ?_⟩) (by assumption) ?_
  rotate_left
  · (intro w' hSw; (try dsimp only at hSw); go_simp; all_goals with_reducible rfl)
  try simp only [Act.put, List.setIfInBounds_toArray, List.set_cons_zero, List.set_cons_succ]
  refine wpAnyH_done (by kernel_rfl) ?_ _
  refine NoPanic.normal ?_
  clear hHeld
  clear y0 y1
  go_upto_region 4 with fail
  obtain ⟨y0, y1⟩ := two_of S4.out.box
  have hlt4 := S4.out.lt
  refine wp_region_noPanic ?_
  refine wp_region_held_drew (S := (fun w' => w'.cell? ⟨b, 0, none⟩ = some (.int .i64 N) ∧ w'.cell? ⟨b, 1, none⟩ = some (.slice a m c))) (by kernel_rfl) (by exact ⟨y0, y1⟩) (fun hHeld => ?_)
  refine wpAnyH_take' (i := 0) (v := ?_) rfl (by kernel_rfl) (by kernel_rfl) (by kernel_rfl) (fun _ _ _ h => h) (Or.inl ⟨by rfl, ?_⟩) (by assumption) ?_
  rotate_left
  · (intro w' hSw; (try dsimp only at hSw); go_simp; all_goals with_reducible rfl)
  try simp only [Act.put, List.setIfInBounds_toArray, List.set_cons_zero, List.set_cons_succ]
  refine wpAnyH_take' (i := 1) (v := ?_) rfl (by kernel_rfl) (by kernel_rfl) (by kernel_rfl) (fun _ _ _ h => h) (Or.inl ⟨by rfl, ?_⟩) (by assumption) ?_
  rotate_left
  · (intro w' hSw; (try dsimp only at hSw); go_simp; all_goals with_reducible rfl)
  try simp only [Act.put, List.setIfInBounds_toArray, List.set_cons_zero, List.set_cons_succ]
  refine wpAnyH_take' (i := 2) (v := ?_) rfl (by kernel_rfl) (by kernel_rfl) (by kernel_rfl) (fun _ _ _ h => h) (Or.inl ⟨by rfl, ?_⟩) (by assumption) ?_
  rotate_left
  · (intro w' hSw; (try dsimp only at hSw); go_simp; all_goals with_reducible rfl)
  try simp only [Act.put, List.setIfInBounds_toArray, List.set_cons_zero, List.set_cons_succ]
  refine wpAnyH_take' (i := 3) (v := ?_) rfl (by kernel_rfl) (by kernel_rfl) (by kernel_rfl) (fun _ _ _ h => h) (Or.inl ⟨by rfl, ?_⟩) (by assumption) ?_
  rotate_left
  · (intro w' hSw; (try dsimp only at hSw); go_simp; all_goals with_reducible rfl)
  try simp only [Act.put, List.setIfInBounds_toArray, List.set_cons_zero, List.set_cons_succ]
  refine wpAnyH_take' (i := 4) (v := ?_) rfl (by kernel_rfl) (by kernel_rfl) (by kernel_rfl) (fun _ _ _ h => h) (Or.inl ⟨by rfl, ?_⟩) (by assumption) ?_
  rotate_left
  · (intro w' hSw; (try dsimp only at hSw); go_simp; all_goals with_reducible rfl)
  try simp only [Act.put, List.setIfInBounds_toArray, List.set_cons_zero, List.set_cons_succ]
  refine wpAnyH_take' (i := 5) (v := ?_) rfl (by kernel_rfl) (by kernel_rfl) (by kernel_rfl) (fun _ _ _ h => h) (Or.inl ⟨by rfl, ?_⟩) (by assumption) ?_
  rotate_left
  · (intro w' hSw; (try dsimp only at hSw); go_simp; all_goals with_reducible rfl)
  try simp only [Act.put, List.setIfInBounds_toArray, List.set_cons_zero, List.set_cons_succ]
  refine wpAnyH_take' (i := 6) (v := ?_) rfl (by kernel_rfl) (by kernel_rfl) (by kernel_rfl) (fun _ _ _ h => h) (Or.inl ⟨by rfl, ?_⟩) (by assumption) ?_
  rotate_left
  · (intro w' hSw; (try dsimp only at hSw); go_simp; all_goals with_reducible rfl)
  try simp only [Act.put, List.setIfInBounds_toArray, List.set_cons_zero, List.set_cons_succ]
  refine wpAnyH_take' (i := 8) (v := ?_) rfl (by kernel_rfl) (by kernel_rfl) (by kernel_rfl) (fun _ _ _ h => h) (Or.inl ⟨by rfl, ?_⟩) (by assumption) ?_
  rotate_left
  · (intro w' hSw; (try dsimp only at hSw); go_simp; all_goals with_reducible rfl)
  try simp only [Act.put, List.setIfInBounds_toArray, List.set_cons_zero, List.set_cons_succ]
  refine wpAnyH_take' (i := 9) (v := ?_) rfl (by kernel_rfl) (by kernel_rfl) (by kernel_rfl) (fun _ _ _ h => h) (Or.inl ⟨by rfl, ?_⟩) (by assumption) ?_
  rotate_left
  · (intro w' hSw; (try dsimp only at hSw); go_simp; all_goals with_reducible rfl)
  try simp only [Act.put, List.setIfInBounds_toArray, List.set_cons_zero, List.set_cons_succ]
  refine wpAnyH_ready (rs := [7]) (by kernel_rfl) (by simp) ?_
  refine allReadyH_cons' rfl (fun Kn hKn => ?_) AllReadyH.nil
  go_simp
  go_at_call 151
  refine (c_flows g _ N v1 _ _ _ _ _ _ L l2 _ (S4.out.below (by go_grown)).cur (OwnS.at qf_len (S4.out.below (by go_grown)).own) ((O2_4.out.below (by go_grown)).own.at) (q_cap S4.out.own) (by omega) (by omega) (by omega)).mono ?_
  rintro e w5 ⟨⟨a3, m3, c3, l3, rfl, ho, hm3⟩, hc, hg⟩
  have S5 := hid ((S4.out.below (by go_grown)).step hc hg)
  have O2_5 := hid ((O2_4.out.below (by go_grown)).step hg)
  clear O2_4
  have O3_5 := hid (LB.new (w := w) (g := g) ho (by have := S4.out.cur.lt; simp; omega) (by have := S4.out.lt; simp; omega))
  clear ho
  clear hc hg y0 y1 S4
  obtain ⟨y0, y1⟩ := two_of S5.out.box
  have hlt5 := S5.out.lt
  refine hKn.out _ _ ⟨y0, y1⟩ (fun hHeldN => ?_)
  clear hKn Kn hHeld
  have hHeld := hHeldN
  clear hHeldN
  try simp only [Act.put, List.setIfInBounds_toArray, List.set_cons_zero, List.set_cons_succ]
  refine wpAnyH_ready (rs := [10]) (by kernel_rfl) (by simp) ?_
  refine allReadyH_cons' rfl (fun Kn hKn => ?_) AllReadyH.nil
  go_simp
  go_at_call 63
  refine (c_nodeOf g _ N _ _ _ _ (S5.out.below (by go_grown)).cur (by omega) (by omega)).mono ?_
  rintro e w6 ⟨⟨v4, rfl⟩, hc, hg⟩
  have S6 := hid ((S5.out.below (by go_grown)).step hc hg)
  have O2_6 := hid ((O2_5.out.below (by go_grown)).step hg)
  clear O2_5
  have O3_6 := hid ((O3_5.out.below (by go_grown)).step hg)
  clear O3_5
  clear hc hg y0 y1 S5
  obtain ⟨y0, y1⟩ := two_of S6.out.box
  have hlt6 := S6.out.lt
  refine hKn.out _ _ ⟨y0, y1⟩ (fun hHeldN => ?_)
  clear hKn Kn hHeld
  have hHeld := hHeldN
  clear hHeldN
  try simp only [Act.put, List.setIfInBounds_toArray, List.set_cons_zero, List.set_cons_succ]
  have HD := hid (S6.out.put (u := .int .i64 N) (v := .slice a m c))
  have P2 := hid (O2_6.out.put (u := .int .i64 N) (v := .slice a m c))
  have P3 := hid (O3_6.out.put (u := .int .i64 N) (v := .slice a m c))
  obtain ⟨z0, z1⟩ := two_of S6.out.res
  have fz := fun j => frozen_of_row w6 w.heap.size j _ _ S6.out.res
  have hlo := S6.out.lo
  have hltz := S6.out.lt
  refine wpAnyH_ready (rs := [11]) (by kernel_rfl) (by simp) ?_
  refine allReadyH_cons' rfl (fun Kn hKn => ?_) AllReadyH.nil
  go_simp
  refine hKn.out _ _ (two_of HD.out.box) (fun hHeldN => ?_)
  clear hKn Kn hHeld
  have hHeld := hHeldN
  clear hHeldN
  try simp only [Act.put, List.setIfInBounds_toArray, List.set_cons_zero, List.set_cons_succ]
  refine wpAnyH_take' (i := 12) (v := ?_) rfl (by kernel_rfl) (by kernel_rfl) (by kernel_rfl) (fun _ _ _ h => h) (Or.inl ⟨by rfl, ?_⟩) (by assumption) ?_
  rotate_left
  · (intro w' hSw; (try dsimp only at hSw); go_simp; all_goals with_reducible rfl)
  try simp only [Act.put, List.setIfInBounds_toArray, List.set_cons_zero, List.set_cons_succ]
  refine wpAnyH_take' (i := 13) (v := ?_) rfl (by kernel_rfl) (by kernel_rfl) (by kernel_rfl) (fun _ _ _ h => h) (Or.inl ⟨by rfl, ?_⟩) (by assumption) ?_
  rotate_left
  · (intro w' hSw; (try dsimp only at hSw); go_simp; all_goals with_reducible rfl)
  try simp only [Act.put, List.setIfInBounds_toArray, List.set_cons_zero, List.set_cons_succ]
  refine wpAnyH_take' (i := 14) (v := ?_) rfl (by kernel_rfl) (by kernel_rfl) (by kernel_rfl) (fun _ _ _ h => h) (Or.inl ⟨by rfl, ?_⟩) (by assumption) ?_
  rotate_left
  · (intro w' hSw; (try dsimp only at hSw); go_simp; all_goals with_reducible rfl)
  try simp only [Act.put, List.setIfInBounds_toArray, List.set_cons_zero, List.set_cons_succ]
  refine wpAnyH_take' (i := 15) (v := ?_) rfl (by kernel_rfl) (by kernel_rfl) (by kernel_rfl) (fun _ _ _ h => h) (Or.inl ⟨by rfl, ?_⟩) (by assumption) ?_
  rotate_left
  · (intro w' hSw; (try dsimp only at hSw); go_simp; all_goals with_reducible rfl)
  try simp only [Act.put, List.setIfInBounds_toArray, List.set_cons_zero, List.set_cons_succ]
  refine wpAnyH_done (by kernel_rfl) ?_ _
  refine NoPanic.normal ?_
  clear hHeld
  go_wp2
  refine bodyPost_ret (v := .tuple #[.agg #[.int .i64 N, .slice a m c], .int .i64 v1, .slice a2 m2 c2, .slice a3 m3 c3, .int .i64 v4]) (by simp [results, Try.results80, go_sem, *]) rfl ⟨N, a, m, c, L, v1, a2, m2, c2, l2, a3, m3, c3, l3, v4, rfl, OwnS.mono HD.out.own (by omega), P2.out.mono (by omega), P3.out.mono (by omega), ⟨⟨by omega, by omega⟩, by omega, by omega, by omega⟩, HD.out.bel⟩

set_option maxRecDepth 100000 in
set_option maxHeartbeats 8000000 in
theorem s_DrawIsBalanced (a0 : Option Addr) (n0 c0 : Nat) (w : World) (h : BytesAt w a0 n0) :
    Calls Try.prog 18 #[.slice a0 n0 c0] w fun e w' => ∃ (N : Int) (a : Option Addr) (m c : Nat) (L : List Pip) (v1 : Int) (a2 : Option Addr) (m2 c2 : Nat) (l2 : List Int) (a3 : Option Addr) (m3 c3 : Nat) (l3 : List Int), e = .returned (.tuple #[.agg #[.int .i64 N, .slice a m c], .int .i64 v1, .slice a2 m2 c2, .slice a3 m3 c3]) ∧ OwnQ w' w.heap.size (.slice a m c) L ∧ OwnI w' w.heap.size (.slice a2 m2 c2) l2 ∧ OwnI w' w.heap.size (.slice a3 m3 c3) l3 ∧ ((0 ≤ N ∧ N ≤ 9) ∧ m ≤ 11 ∧ m2 ≤ 1001 ∧ m3 ≤ 1001) ∧ Below w.heap.size w w' := by
  have H := hid h
  clear h
  have T0 := hid (heap_alloc_new w (.cells #[.int .i64 0, .slice none 0 0] 26))
  go_enter Try.func18, Try.ntmps18
  have B0 := hid (by go_grown : Below w.heap.size w (w.alloc (.cells #[.int .i64 0, .slice none 0 0] 26)))
  have hz0 : w.heap.size < (w.alloc (.cells #[.int .i64 0, .slice none 0 0] 26)).heap.size := by simp
  go_upto_region 1 with fail
  generalize w.alloc (.cells #[.int .i64 0, .slice none 0 0] 26) = w0 at *
  go_wp2_with fail
  refine (s_DrawImbalanceAt _ _ _ _ (H.out.below B0.out)).mono ?_
  rintro e w1 ⟨N, a, m, c, L, v1, a2, m2, c2, l2, a3, m3, c3, l3, v4, rfl, ho, ho2, ho3, ⟨⟨hN0, hN1⟩, hm, hm2, hm3⟩, hb⟩
  have R1 := hid ((hb.block w.heap.size hz0).trans T0.out)
  have B1 := hid (bstep B0.out hb)
  have hz1 := hb.size
  have Hho := hid ho
  have Hho2 := hid ho2
  have Hho3 := hid ho3
  clear hb T0 ho ho2 ho3
  obtain ⟨z0, z1⟩ := two_of R1.out
  have fz := fun j => frozen_of_row w1 w.heap.size j _ _ R1.out
  have hzw : w.heap.size < w1.heap.size := by omega
  go_wp2
  refine bodyPost_ret (v := .tuple #[.agg #[.int .i64 N, .slice a m c], .int .i64 v1, .slice a2 m2 c2, .slice a3 m3 c3]) (by simp [results, Try.results18, go_sem, *]) rfl ⟨N, a, m, c, L, v1, a2, m2, c2, l2, a3, m3, c3, l3, rfl, (OwnS.alloc (OwnS.far (OwnS.far Hho.out (by show w.heap.size < _; omega)) (by show w.heap.size < _; omega)) _).mono (by omega), (OwnI.alloc (OwnI.far (OwnI.far Hho2.out (by show w.heap.size < _; omega)) (by show w.heap.size < _; omega)) _).mono (by omega), (OwnI.alloc (OwnI.far (OwnI.far Hho3.out (by show w.heap.size < _; omega)) (by show w.heap.size < _; omega)) _).mono (by omega), ⟨⟨by omega, by omega⟩, by omega, by omega, by omega⟩, ?_⟩
  exact bstep ((B1.out.setCell (Nat.le_refl _) _).setCell (Nat.le_refl _) _) (by go_grown)

set_option maxRecDepth 100000 in
set_option maxHeartbeats 8000000 in
theorem s_DrawHeaviestPipe (a0 : Option Addr) (n0 c0 : Nat) (w : World) (h : BytesAt w a0 n0) :
    Calls Try.prog 28 #[.slice a0 n0 c0] w fun e w' => ∃ (N : Int) (a : Option Addr) (m c : Nat) (L : List Pip) (a1 : Option Addr) (m1 c1 : Nat) (l1 : List Int), e = .returned (.tuple #[.agg #[.int .i64 N, .slice a m c], .slice a1 m1 c1]) ∧ OwnQ w' w.heap.size (.slice a m c) L ∧ OwnI w' w.heap.size (.slice a1 m1 c1) l1 ∧ ((0 ≤ N ∧ N ≤ 9) ∧ m ≤ 11 ∧ m1 ≤ 1001) ∧ Below w.heap.size w w' := by
  have H := hid h
  clear h
  have T0 := hid (heap_alloc_new w (.cells #[.int .i64 0, .slice none 0 0] 26))
  go_enter Try.func28, Try.ntmps28
  have B0 := hid (by go_grown : Below w.heap.size w (w.alloc (.cells #[.int .i64 0, .slice none 0 0] 26)))
  have hz0 : w.heap.size < (w.alloc (.cells #[.int .i64 0, .slice none 0 0] 26)).heap.size := by simp
  go_upto_region 1 with fail
  generalize w.alloc (.cells #[.int .i64 0, .slice none 0 0] 26) = w0 at *
  go_wp2_with fail
  refine (s_DrawIsBalanced _ _ _ _ (H.out.below B0.out)).mono ?_
  rintro e w1 ⟨N, a, m, c, L, v1, a2, m2, c2, l2, a3, m3, c3, l3, rfl, ho, ho2, ho3, ⟨⟨hN0, hN1⟩, hm, hm2, hm3⟩, hb⟩
  have R1 := hid ((hb.block w.heap.size hz0).trans T0.out)
  have B1 := hid (bstep B0.out hb)
  have hz1 := hb.size
  have Hho := hid ho
  have Hho2 := hid ho2
  have Hho3 := hid ho3
  clear hb T0 ho ho2 ho3
  obtain ⟨z0, z1⟩ := two_of R1.out
  have fz := fun j => frozen_of_row w1 w.heap.size j _ _ R1.out
  have hzw : w.heap.size < w1.heap.size := by omega
  go_wp2
  refine bodyPost_ret (v := .tuple #[.agg #[.int .i64 N, .slice a m c], .slice a3 m3 c3]) (by simp [results, Try.results28, go_sem, *]) rfl ⟨N, a, m, c, L, a3, m3, c3, l3, rfl, (OwnS.alloc (OwnS.far (OwnS.far Hho.out (by show w.heap.size < _; omega)) (by show w.heap.size < _; omega)) _).mono (by omega), (OwnI.alloc (OwnI.far (OwnI.far Hho3.out (by show w.heap.size < _; omega)) (by show w.heap.size < _; omega)) _).mono (by omega), ⟨⟨by omega, by omega⟩, by omega, by omega⟩, ?_⟩
  exact bstep ((B1.out.setCell (Nat.le_refl _) _).setCell (Nat.le_refl _) _) (by go_grown)

set_option maxRecDepth 100000 in
set_option maxHeartbeats 8000000 in
theorem s_DrawEnergyOf (a0 : Option Addr) (n0 c0 : Nat) (w : World) (h : BytesAt w a0 n0) :
    Calls Try.prog 44 #[.slice a0 n0 c0] w fun e w' => ∃ (N : Int) (a : Option Addr) (m c : Nat) (L : List Pip) (a1 : Option Addr) (m1 c1 : Nat) (l1 : List Int), e = .returned (.tuple #[.agg #[.int .i64 N, .slice a m c], .slice a1 m1 c1]) ∧ OwnQ w' w.heap.size (.slice a m c) L ∧ OwnI w' w.heap.size (.slice a1 m1 c1) l1 ∧ ((0 ≤ N ∧ N ≤ 9) ∧ m ≤ 11 ∧ m1 ≤ 1001) ∧ Below w.heap.size w w' := by
  have H := hid h
  clear h
  have T0 := hid (heap_alloc_new w (.cells #[.int .i64 0, .slice none 0 0] 26))
  go_enter Try.func44, Try.ntmps44
  have B0 := hid (by go_grown : Below w.heap.size w (w.alloc (.cells #[.int .i64 0, .slice none 0 0] 26)))
  have hz0 : w.heap.size < (w.alloc (.cells #[.int .i64 0, .slice none 0 0] 26)).heap.size := by simp
  go_upto_region 1 with fail
  generalize w.alloc (.cells #[.int .i64 0, .slice none 0 0] 26) = w0 at *
  go_wp2_with fail
  refine (s_DrawHeaviestPipe _ _ _ _ (H.out.below B0.out)).mono ?_
  rintro e w1 ⟨N, a, m, c, L, a1, m1, c1, l1, rfl, ho, ho1, ⟨⟨hN0, hN1⟩, hm, hm1⟩, hb⟩
  have R1 := hid ((hb.block w.heap.size hz0).trans T0.out)
  have B1 := hid (bstep B0.out hb)
  have hz1 := hb.size
  have Hho := hid ho
  have Hho1 := hid ho1
  clear hb T0 ho ho1
  obtain ⟨z0, z1⟩ := two_of R1.out
  have fz := fun j => frozen_of_row w1 w.heap.size j _ _ R1.out
  have hzw : w.heap.size < w1.heap.size := by omega
  go_wp2
  refine bodyPost_ret (v := .tuple #[.agg #[.int .i64 N, .slice a m c], .slice a1 m1 c1]) (by simp [results, Try.results44, go_sem, *]) rfl ⟨N, a, m, c, L, a1, m1, c1, l1, rfl, (OwnS.far (OwnS.far Hho.out (by show w.heap.size < _; omega)) (by show w.heap.size < _; omega)).mono (by omega), (OwnI.far (OwnI.far Hho1.out (by show w.heap.size < _; omega)) (by show w.heap.size < _; omega)).mono (by omega), ⟨⟨by omega, by omega⟩, by omega, by omega⟩, ?_⟩
  exact (B1.out.setCell (Nat.le_refl _) _).setCell (Nat.le_refl _) _

set_option maxRecDepth 100000 in
set_option maxHeartbeats 8000000 in
theorem s_DrawReversedPipe (a0 : Option Addr) (n0 c0 : Nat) (w : World) (h : BytesAt w a0 n0) :
    Calls Try.prog 21 #[.slice a0 n0 c0] w fun e w' => ∃ (N : Int) (a : Option Addr) (m c : Nat) (L : List Pip) (a1 : Option Addr) (m1 c1 : Nat) (l1 : List Int) (v2 : Int), e = .returned (.tuple #[.agg #[.int .i64 N, .slice a m c], .slice a1 m1 c1, .int .i64 v2]) ∧ OwnQ w' w.heap.size (.slice a m c) L ∧ OwnI w' w.heap.size (.slice a1 m1 c1) l1 ∧ ((0 ≤ N ∧ N ≤ 9) ∧ m ≤ 11 ∧ m1 ≤ 1001) ∧ Below w.heap.size w w' := by
  have H := hid h
  clear h
  have T0 := hid (heap_alloc_new w (.cells #[.int .i64 0, .slice none 0 0] 26))
  go_enter Try.func21, Try.ntmps21
  have B0 := hid (by go_grown : Below w.heap.size w (w.alloc (.cells #[.int .i64 0, .slice none 0 0] 26)))
  have hz0 : w.heap.size < (w.alloc (.cells #[.int .i64 0, .slice none 0 0] 26)).heap.size := by simp
  go_upto_region 1 with fail
  generalize w.alloc (.cells #[.int .i64 0, .slice none 0 0] 26) = w0 at *
  go_wp2_with fail
  refine (s_DrawHeaviestPipe _ _ _ _ (H.out.below B0.out)).mono ?_
  rintro e w1 ⟨N, a, m, c, L, a1, m1, c1, l1, rfl, ho, ho1, ⟨⟨hN0, hN1⟩, hm, hm1⟩, hb⟩
  have R1 := hid ((hb.block w.heap.size hz0).trans T0.out)
  have B1 := hid (bstep B0.out hb)
  have hz1 := hb.size
  have Hho := hid ho
  have Hho1 := hid ho1
  clear hb T0 ho ho1
  go_upto_region 3 with fail
  have S2 := hid (show DB w ((w1.alloc (.cells #[.int .i64 N, .slice a m c] 26)).alloc (.cells #[.slice a0 n0 c0, .int .i64 0, .int .u64 0] 80)) (w1.heap.size + 1) w1.heap.size 0 N a m c L from
    ⟨Cur.start (c := c0) ((H.out.below B1.out).below (by go_grown)) (by simp), bstep B1.out (by go_grown), mid_new _ _ _ _ rfl, (Below.heap_alloc _ _ _ (by simp; omega)).trans ((Below.heap_alloc _ _ _ (by omega)).trans R1.out), OwnS.mono (OwnS.below Hho.out (by go_grown)) (by omega), fun k e => by have := OwnS.lt Hho.out k e; omega, by omega⟩)
  have O1_2 := hid (show LB w ((w1.alloc (.cells #[.int .i64 N, .slice a m c] 26)).alloc (.cells #[.slice a0 n0 c0, .int .i64 0, .int .u64 0] 80)) (w1.heap.size + 1) a1 m1 c1 l1 from ⟨(Hho1.out.below (by go_grown)).mono (by omega), fun k e => by have := Hho1.out.lt k e; omega⟩)
  obtain ⟨b, hb⟩ : ∃ b, w1.heap.size = b := ⟨_, rfl⟩
  obtain ⟨g, hg⟩ : ∃ g, b + 1 = g := ⟨_, rfl⟩
  rw [hb] at S2 O1_2 ⊢
  rw [hg] at S2 O1_2 ⊢
  have hgb : ¬ b = g := by omega
  generalize (w1.alloc (.cells #[.int .i64 N, .slice a m c] 26)).alloc (.cells #[.slice a0 n0 c0, .int .i64 0, .int .u64 0] 80) = w2 at *
  clear hb hg R1 B1 Hho Hho1
  obtain ⟨y0, y1⟩ := two_of S2.out.box
  have hlt2 := S2.out.lt
  refine wp_region_noPanic ?_
  refine wp_region_held_drew (S := (fun w' => w'.cell? ⟨b, 0, none⟩ = some (.int .i64 N) ∧ w'.cell? ⟨b, 1, none⟩ = some (.slice a m c))) (by kernel_rfl) (by exact ⟨y0, y1⟩) (fun hHeld => ?_)
  refine wpAnyH_take' (i := 0) (v := ?_) rfl (by kernel_rfl) (by kernel_rfl) (by kernel_rfl) (fun _ _ _ h => h) (Or.inl ⟨by rfl, ?_⟩) (by assumption) ?_
  rotate_left
  · (intro w' hSw; (try dsimp only at hSw); go_simp; all_goals with_reducible rfl)
  try simp only [Act.put, List.setIfInBounds_toArray, List.set_cons_zero, List.set_cons_succ]
  refine wpAnyH_take' (i := 1) (v := ?_) rfl (by kernel_rfl) (by kernel_rfl) (by kernel_rfl) (fun _ _ _ h => h) (Or.inl ⟨by rfl, ?_⟩) (by assumption) ?_
  rotate_left
  · (intro w' hSw; (try dsimp only at hSw); go_simp; all_goals with_reducible rfl)
  try simp only [Act.put, List.setIfInBounds_toArray, List.set_cons_zero, List.set_cons_succ]
  refine wpAnyH_take' (i := 2) (v := ?_) rfl (by kernel_rfl) (by kernel_rfl) (by kernel_rfl) (fun _ _ _ h => h) (Or.inl ⟨by rfl, ?_⟩) (by assumption) ?_
  rotate_left
  · (intro w' hSw; (try dsimp only at hSw); go_simp; all_goals with_reducible rfl)
  try simp only [Act.put, List.setIfInBounds_toArray, List.set_cons_zero, List.set_cons_succ]
  refine wpAnyH_take' (i := 3) (v := ?_) rfl (by kernel_rfl) (by kernel_rfl) (by kernel_rfl) (fun _ _ _ h => h) (Or.inl ⟨by rfl, ?_⟩) (by assumption) ?_
  rotate_left
  · (intro w' hSw; (try dsimp only at hSw); go_simp; all_goals with_reducible rfl)
  try simp only [Act.put, List.setIfInBounds_toArray, List.set_cons_zero, List.set_cons_succ]
  refine wpAnyH_ready (rs := [4]) (by kernel_rfl) (by simp) ?_
  refine allReadyH_cons' rfl (fun Kn hKn => ?_) AllReadyH.nil
  go_simp
  go_at_call 84
  refine (c_pipeOf g _ N _ _ _ L _ (S2.out.below (by go_grown)).cur (OwnS.at qf_len (S2.out.below (by go_grown)).own) (fun b o e => own_addr (fun q e2 => (S2.out.ne q e2).2) e) (by omega) (by omega)).mono ?_
  rintro e w3 ⟨⟨v2, rfl⟩, hc, hg⟩
  have S3 := hid ((S2.out.below (by go_grown)).step hc hg)
  have O1_3 := hid ((O1_2.out.below (by go_grown)).step hg)
  clear O1_2
  clear hc hg y0 y1 S2
  obtain ⟨y0, y1⟩ := two_of S3.out.box
  have hlt3 := S3.out.lt
  refine hKn.out _ _ ⟨y0, y1⟩ (fun hHeldN => ?_)
  clear hKn Kn hHeld
  have hHeld := hHeldN
  clear hHeldN
  try simp only [Act.put, List.setIfInBounds_toArray, List.set_cons_zero, List.set_cons_succ]
  have HD := hid (S3.out.put (u := .int .i64 N) (v := .slice a m c))
  have P1 := hid (O1_3.out.put (u := .int .i64 N) (v := .slice a m c))
  obtain ⟨z0, z1⟩ := two_of S3.out.res
  have fz := fun j => frozen_of_row w3 w.heap.size j _ _ S3.out.res
  have hlo := S3.out.lo
  have hltz := S3.out.lt
  refine wpAnyH_ready (rs := [5]) (by kernel_rfl) (by simp) ?_
  refine allReadyH_cons' rfl (fun Kn hKn => ?_) AllReadyH.nil
  go_simp
  refine hKn.out _ _ (two_of HD.out.box) (fun hHeldN => ?_)
  clear hKn Kn hHeld
  have hHeld := hHeldN
  clear hHeldN
  try simp only [Act.put, List.setIfInBounds_toArray, List.set_cons_zero, List.set_cons_succ]
  refine wpAnyH_take' (i := 6) (v := ?_) rfl (by kernel_rfl) (by kernel_rfl) (by kernel_rfl) (fun _ _ _ h => h) (Or.inl ⟨by rfl, ?_⟩) (by assumption) ?_
  rotate_left
  · (intro w' hSw; (try dsimp only at hSw); go_simp; all_goals with_reducible rfl)
  try simp only [Act.put, List.setIfInBounds_toArray, List.set_cons_zero, List.set_cons_succ]
  refine wpAnyH_take' (i := 7) (v := ?_) rfl (by kernel_rfl) (by kernel_rfl) (by kernel_rfl) (fun _ _ _ h => h) (Or.inl ⟨by rfl, ?_⟩) (by assumption) ?_
  rotate_left
  · (intro w' hSw; (try dsimp only at hSw); go_simp; all_goals with_reducible rfl)
  try simp only [Act.put, List.setIfInBounds_toArray, List.set_cons_zero, List.set_cons_succ]
  refine wpAnyH_done (by kernel_rfl) ?_ _
  refine NoPanic.normal ?_
  clear hHeld
  go_wp2
  refine bodyPost_ret (v := .tuple #[.agg #[.int .i64 N, .slice a m c], .slice a1 m1 c1, .int .i64 v2]) (by simp [results, Try.results21, go_sem, *]) rfl ⟨N, a, m, c, L, a1, m1, c1, l1, v2, rfl, OwnS.mono HD.out.own (by omega), P1.out.mono (by omega), ⟨⟨by omega, by omega⟩, by omega, by omega⟩, HD.out.bel⟩

set_option maxRecDepth 100000 in
set_option maxHeartbeats 8000000 in
theorem s_DrawLossAlong (a0 : Option Addr) (n0 c0 : Nat) (w : World) (h : BytesAt w a0 n0) :
    Calls Try.prog 42 #[.slice a0 n0 c0] w fun e w' => ∃ (N : Int) (a : Option Addr) (m c : Nat) (L : List Pip) (a1 : Option Addr) (m1 c1 : Nat) (l1 : List Int) (v2 : Int) (v3 : Int), e = .returned (.tuple #[.agg #[.int .i64 N, .slice a m c], .slice a1 m1 c1, .int .i64 v2, .int .i64 v3]) ∧ OwnQ w' w.heap.size (.slice a m c) L ∧ OwnI w' w.heap.size (.slice a1 m1 c1) l1 ∧ ((0 ≤ N ∧ N ≤ 9) ∧ m ≤ 11 ∧ m1 ≤ 1001) ∧ Below w.heap.size w w' := by
  have H := hid h
  clear h
  have T0 := hid (heap_alloc_new w (.cells #[.int .i64 0, .slice none 0 0] 26))
  go_enter Try.func42, Try.ntmps42
  have B0 := hid (by go_grown : Below w.heap.size w (w.alloc (.cells #[.int .i64 0, .slice none 0 0] 26)))
  have hz0 : w.heap.size < (w.alloc (.cells #[.int .i64 0, .slice none 0 0] 26)).heap.size := by simp
  go_upto_region 1 with fail
  generalize w.alloc (.cells #[.int .i64 0, .slice none 0 0] 26) = w0 at *
  go_wp2_with fail
  refine (s_DrawHeaviestPipe _ _ _ _ (H.out.below B0.out)).mono ?_
  rintro e w1 ⟨N, a, m, c, L, a1, m1, c1, l1, rfl, ho, ho1, ⟨⟨hN0, hN1⟩, hm, hm1⟩, hb⟩
  have R1 := hid ((hb.block w.heap.size hz0).trans T0.out)
  have B1 := hid (bstep B0.out hb)
  have hz1 := hb.size
  have Hho := hid ho
  have Hho1 := hid ho1
  clear hb T0 ho ho1
  go_upto_region 3 with fail
  have S2 := hid (show DB w ((w1.alloc (.cells #[.int .i64 N, .slice a m c] 26)).alloc (.cells #[.slice a0 n0 c0, .int .i64 0, .int .u64 0] 80)) (w1.heap.size + 1) w1.heap.size 0 N a m c L from
    ⟨Cur.start (c := c0) ((H.out.below B1.out).below (by go_grown)) (by simp), bstep B1.out (by go_grown), mid_new _ _ _ _ rfl, (Below.heap_alloc _ _ _ (by simp; omega)).trans ((Below.heap_alloc _ _ _ (by omega)).trans R1.out), OwnS.mono (OwnS.below Hho.out (by go_grown)) (by omega), fun k e => by have := OwnS.lt Hho.out k e; omega, by omega⟩)
  have O1_2 := hid (show LB w ((w1.alloc (.cells #[.int .i64 N, .slice a m c] 26)).alloc (.cells #[.slice a0 n0 c0, .int .i64 0, .int .u64 0] 80)) (w1.heap.size + 1) a1 m1 c1 l1 from ⟨(Hho1.out.below (by go_grown)).mono (by omega), fun k e => by have := Hho1.out.lt k e; omega⟩)
  obtain ⟨b, hb⟩ : ∃ b, w1.heap.size = b := ⟨_, rfl⟩
  obtain ⟨g, hg⟩ : ∃ g, b + 1 = g := ⟨_, rfl⟩
  rw [hb] at S2 O1_2 ⊢
  rw [hg] at S2 O1_2 ⊢
  have hgb : ¬ b = g := by omega
  generalize (w1.alloc (.cells #[.int .i64 N, .slice a m c] 26)).alloc (.cells #[.slice a0 n0 c0, .int .i64 0, .int .u64 0] 80) = w2 at *
  clear hb hg R1 B1 Hho Hho1
  obtain ⟨y0, y1⟩ := two_of S2.out.box
  have hlt2 := S2.out.lt
  refine wp_region_noPanic ?_
  refine wp_region_held_drew (S := (fun w' => w'.cell? ⟨b, 0, none⟩ = some (.int .i64 N) ∧ w'.cell? ⟨b, 1, none⟩ = some (.slice a m c))) (by kernel_rfl) (by exact ⟨y0, y1⟩) (fun hHeld => ?_)
  refine wpAnyH_take' (i := 0) (v := ?_) rfl (by kernel_rfl) (by kernel_rfl) (by kernel_rfl) (fun _ _ _ h => h) (Or.inl ⟨by rfl, ?_⟩) (by assumption) ?_
  rotate_left
  · (intro w' hSw; (try dsimp only at hSw); go_simp; all_goals with_reducible rfl)
  try simp only [Act.put, List.setIfInBounds_toArray, List.set_cons_zero, List.set_cons_succ]
  refine wpAnyH_take' (i := 1) (v := ?_) rfl (by kernel_rfl) (by kernel_rfl) (by kernel_rfl) (fun _ _ _ h => h) (Or.inl ⟨by rfl, ?_⟩) (by assumption) ?_
  rotate_left
  · (intro w' hSw; (try dsimp only at hSw); go_simp; all_goals with_reducible rfl)
  try simp only [Act.put, List.setIfInBounds_toArray, List.set_cons_zero, List.set_cons_succ]
  refine wpAnyH_take' (i := 2) (v := ?_) rfl (by kernel_rfl) (by kernel_rfl) (by kernel_rfl) (fun _ _ _ h => h) (Or.inl ⟨by rfl, ?_⟩) (by assumption) ?_
  rotate_left
  · (intro w' hSw; (try dsimp only at hSw); go_simp; all_goals with_reducible rfl)
  try simp only [Act.put, List.setIfInBounds_toArray, List.set_cons_zero, List.set_cons_succ]
  refine wpAnyH_take' (i := 3) (v := ?_) rfl (by kernel_rfl) (by kernel_rfl) (by kernel_rfl) (fun _ _ _ h => h) (Or.inl ⟨by rfl, ?_⟩) (by assumption) ?_
  rotate_left
  · (intro w' hSw; (try dsimp only at hSw); go_simp; all_goals with_reducible rfl)
  try simp only [Act.put, List.setIfInBounds_toArray, List.set_cons_zero, List.set_cons_succ]
  refine wpAnyH_take' (i := 5) (v := ?_) rfl (by kernel_rfl) (by kernel_rfl) (by kernel_rfl) (fun _ _ _ h => h) (Or.inl ⟨by rfl, ?_⟩) (by assumption) ?_
  rotate_left
  · (intro w' hSw; (try dsimp only at hSw); go_simp; all_goals with_reducible rfl)
  try simp only [Act.put, List.setIfInBounds_toArray, List.set_cons_zero, List.set_cons_succ]
  refine wpAnyH_take' (i := 6) (v := ?_) rfl (by kernel_rfl) (by kernel_rfl) (by kernel_rfl) (fun _ _ _ h => h) (Or.inl ⟨by rfl, ?_⟩) (by assumption) ?_
  rotate_left
  · (intro w' hSw; (try dsimp only at hSw); go_simp; all_goals with_reducible rfl)
  try simp only [Act.put, List.setIfInBounds_toArray, List.set_cons_zero, List.set_cons_succ]
  refine wpAnyH_ready (rs := [4]) (by kernel_rfl) (by simp) ?_
  refine allReadyH_cons' rfl (fun Kn hKn => ?_) AllReadyH.nil
  go_simp
  go_at_call 63
  refine (c_nodeOf g _ N _ _ _ _ (S2.out.below (by go_grown)).cur (by omega) (by omega)).mono ?_
  rintro e w3 ⟨⟨v2, rfl⟩, hc, hg⟩
  have S3 := hid ((S2.out.below (by go_grown)).step hc hg)
  have O1_3 := hid ((O1_2.out.below (by go_grown)).step hg)
  clear O1_2
  clear hc hg y0 y1 S2
  obtain ⟨y0, y1⟩ := two_of S3.out.box
  have hlt3 := S3.out.lt
  refine hKn.out _ _ ⟨y0, y1⟩ (fun hHeldN => ?_)
  clear hKn Kn hHeld
  have hHeld := hHeldN
  clear hHeldN
  try simp only [Act.put, List.setIfInBounds_toArray, List.set_cons_zero, List.set_cons_succ]
  refine wpAnyH_ready (rs := [7]) (by kernel_rfl) (by simp) ?_
  refine allReadyH_cons' rfl (fun Kn hKn => ?_) AllReadyH.nil
  go_simp
  go_at_call 63
  refine (c_nodeOf g _ N _ _ _ _ (S3.out.below (by go_grown)).cur (by omega) (by omega)).mono ?_
  rintro e w4 ⟨⟨v3, rfl⟩, hc, hg⟩
  have S4 := hid ((S3.out.below (by go_grown)).step hc hg)
  have O1_4 := hid ((O1_3.out.below (by go_grown)).step hg)
  clear O1_3
  clear hc hg y0 y1 S3
  obtain ⟨y0, y1⟩ := two_of S4.out.box
  have hlt4 := S4.out.lt
  refine hKn.out _ _ ⟨y0, y1⟩ (fun hHeldN => ?_)
  clear hKn Kn hHeld
  have hHeld := hHeldN
  clear hHeldN
  try simp only [Act.put, List.setIfInBounds_toArray, List.set_cons_zero, List.set_cons_succ]
  have HD := hid (S4.out.put (u := .int .i64 N) (v := .slice a m c))
  have P1 := hid (O1_4.out.put (u := .int .i64 N) (v := .slice a m c))
  obtain ⟨z0, z1⟩ := two_of S4.out.res
  have fz := fun j => frozen_of_row w4 w.heap.size j _ _ S4.out.res
  have hlo := S4.out.lo
  have hltz := S4.out.lt
  refine wpAnyH_ready (rs := [8]) (by kernel_rfl) (by simp) ?_
  refine allReadyH_cons' rfl (fun Kn hKn => ?_) AllReadyH.nil
  go_simp
  refine hKn.out _ _ (two_of HD.out.box) (fun hHeldN => ?_)
  clear hKn Kn hHeld
  have hHeld := hHeldN
  clear hHeldN
  try simp only [Act.put, List.setIfInBounds_toArray, List.set_cons_zero, List.set_cons_succ]
  refine wpAnyH_take' (i := 9) (v := ?_) rfl (by kernel_rfl) (by kernel_rfl) (by kernel_rfl) (fun _ _ _ h => h) (Or.inl ⟨by rfl, ?_⟩) (by assumption) ?_
  rotate_left
  · (intro w' hSw; (try dsimp only at hSw); go_simp; all_goals with_reducible rfl)
  try simp only [Act.put, List.setIfInBounds_toArray, List.set_cons_zero, List.set_cons_succ]
  refine wpAnyH_take' (i := 10) (v := ?_) rfl (by kernel_rfl) (by kernel_rfl) (by kernel_rfl) (fun _ _ _ h => h) (Or.inl ⟨by rfl, ?_⟩) (by assumption) ?_
  rotate_left
  · (intro w' hSw; (try dsimp only at hSw); go_simp; all_goals with_reducible rfl)
  try simp only [Act.put, List.setIfInBounds_toArray, List.set_cons_zero, List.set_cons_succ]
  refine wpAnyH_take' (i := 11) (v := ?_) rfl (by kernel_rfl) (by kernel_rfl) (by kernel_rfl) (fun _ _ _ h => h) (Or.inl ⟨by rfl, ?_⟩) (by assumption) ?_
  rotate_left
  · (intro w' hSw; (try dsimp only at hSw); go_simp; all_goals with_reducible rfl)
  try simp only [Act.put, List.setIfInBounds_toArray, List.set_cons_zero, List.set_cons_succ]
  refine wpAnyH_done (by kernel_rfl) ?_ _
  refine NoPanic.normal ?_
  clear hHeld
  go_wp2
  refine bodyPost_ret (v := .tuple #[.agg #[.int .i64 N, .slice a m c], .slice a1 m1 c1, .int .i64 v2, .int .i64 v3]) (by simp [results, Try.results42, go_sem, *]) rfl ⟨N, a, m, c, L, a1, m1, c1, l1, v2, v3, rfl, OwnS.mono HD.out.own (by omega), P1.out.mono (by omega), ⟨⟨by omega, by omega⟩, by omega, by omega⟩, HD.out.bel⟩

set_option maxRecDepth 100000 in
set_option maxHeartbeats 8000000 in
theorem s_DrawIsValidNetwork (a0 : Option Addr) (n0 c0 : Nat) (w : World) (h : BytesAt w a0 n0) :
    Calls Try.prog 93 #[.slice a0 n0 c0] w fun e w' => ∃ (N : Int) (a : Option Addr) (m c : Nat) (L : List Pip), e = .returned (.agg #[.int .i64 N, .slice a m c]) ∧ OwnQ w' w.heap.size (.slice a m c) L ∧ ((0 ≤ N ∧ N ≤ 9) ∧ m ≤ 11) ∧ Below w.heap.size w w' := by
  have H := hid h
  clear h
  have T0 := hid (heap_alloc_new w (.cells #[.int .i64 0, .slice none 0 0] 26))
  go_enter Try.func93, Try.ntmps93
  go_upto_region 2 with fail
  have B0 := hid (by go_grown : Below w.heap.size w ((w.alloc (.cells #[.int .i64 0, .slice none 0 0] 26)).alloc (.cells #[.slice a0 n0 c0, .int .i64 0, .int .u64 0] 80)))
  have C0 := hid (Cur.start (c := c0) (g := w.heap.size + 1) (H.out.below (by go_grown : Below w.heap.size w (w.alloc (.cells #[.int .i64 0, .slice none 0 0] 26)))) (by simp))
  have R0 := hid (mid_new w (.cells #[.int .i64 0, .slice none 0 0] 26) (.cells #[.slice a0 n0 c0, .int .i64 0, .int .u64 0] 80) w.heap.size rfl)
  have hz0 : w.heap.size + 1 < ((w.alloc (.cells #[.int .i64 0, .slice none 0 0] 26)).alloc (.cells #[.slice a0 n0 c0, .int .i64 0, .int .u64 0] 80)).heap.size := by simp
  obtain ⟨g, hgg⟩ : ∃ g, w.heap.size + 1 = g := ⟨_, rfl⟩
  rw [hgg] at C0 hz0 ⊢
  generalize (w.alloc (.cells #[.int .i64 0, .slice none 0 0] 26)).alloc (.cells #[.slice a0 n0 c0, .int .i64 0, .int .u64 0] 80) = w0 at *
  have hwg : w.heap.size < g := by omega
  clear hgg
  go_wp2_with fail
  refine (c_anyNetwork g 0 _ C0.out (by omega)).mono ?_
  rintro e w1 ⟨⟨N, a, m, c, rfl, ⟨hN0, hN1, hm⟩, L, ho⟩, hc1, hg1⟩
  have hz1 := hg1.size
  have R1 := hid ((hg1.block w.heap.size (by omega) (fun e => by have := Option.some.inj e; omega)).trans R0.out)
  have B1 := hid (Below.grown B0.out hg1 B0.out.size (fun q e => by have := Option.some.inj e; omega))
  have Hho := hid ho
  clear hc1 hg1 ho
  obtain ⟨z0, z1⟩ := two_of R1.out
  have fz := fun j => frozen_of_row w1 w.heap.size j _ _ R1.out
  have hzw : w.heap.size < w1.heap.size := by omega
  go_wp2
  refine bodyPost_ret (v := .agg #[.int .i64 N, .slice a m c]) (by simp [results, Try.results93, go_sem, *]) rfl ⟨N, a, m, c, L, rfl, (OwnS.far (OwnS.far Hho.out (by show w.heap.size < _; omega)) (by show w.heap.size < _; omega)).mono (by omega), ⟨⟨by omega, by omega⟩, by omega⟩, ?_⟩
  exact (B1.out.setCell (Nat.le_refl _) _).setCell (Nat.le_refl _) _

set_option maxRecDepth 100000 in
set_option maxHeartbeats 8000000 in
theorem s_DrawSpanningTree (a0 : Option Addr) (n0 c0 : Nat) (w : World) (h : BytesAt w a0 n0) :
    Calls Try.prog 25 #[.slice a0 n0 c0] w fun e w' => ∃ (N : Int) (a : Option Addr) (m c : Nat) (L : List Pip), e = .returned (.agg #[.int .i64 N, .slice a m c]) ∧ OwnQ w' w.heap.size (.slice a m c) L ∧ ((0 ≤ N ∧ N ≤ 9) ∧ m ≤ 11) ∧ Below w.heap.size w w' := by
  have H := hid h
  clear h
  have T0 := hid (heap_alloc_new w (.cells #[.int .i64 0, .slice none 0 0] 26))
  go_enter Try.func25, Try.ntmps25
  have B0 := hid (by go_grown : Below w.heap.size w (w.alloc (.cells #[.int .i64 0, .slice none 0 0] 26)))
  have hz0 : w.heap.size < (w.alloc (.cells #[.int .i64 0, .slice none 0 0] 26)).heap.size := by simp
  go_upto_region 1 with fail
  generalize w.alloc (.cells #[.int .i64 0, .slice none 0 0] 26) = w0 at *
  go_wp2_with fail
  refine (s_DrawIsValidNetwork _ _ _ _ (H.out.below B0.out)).mono ?_
  rintro e w1 ⟨N, a, m, c, L, rfl, ho, ⟨⟨hN0, hN1⟩, hm⟩, hb⟩
  have R1 := hid ((hb.block w.heap.size hz0).trans T0.out)
  have B1 := hid (bstep B0.out hb)
  have hz1 := hb.size
  have Hho := hid ho
  clear hb T0 ho
  obtain ⟨z0, z1⟩ := two_of R1.out
  have fz := fun j => frozen_of_row w1 w.heap.size j _ _ R1.out
  have hzw : w.heap.size < w1.heap.size := by omega
  go_wp2
  refine bodyPost_ret (v := .agg #[.int .i64 N, .slice a m c]) (by simp [results, Try.results25, go_sem, *]) rfl ⟨N, a, m, c, L, rfl, (OwnS.far (OwnS.far Hho.out (by show w.heap.size < _; omega)) (by show w.heap.size < _; omega)).mono (by omega), ⟨⟨by omega, by omega⟩, by omega⟩, ?_⟩
  exact (B1.out.setCell (Nat.le_refl _) _).setCell (Nat.le_refl _) _

end Go.Proofs.Ytlnhikhpkcgegaa

