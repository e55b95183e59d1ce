/-
  Texts of this claim, joined: DrawM, ProfK.
-/
import Derived.Test.YtpmffboojkfpdaaUs4
import Derived.Test.YtpmffboojkfpdaaUs5
/-
  The draw of two profiles and a share.
-/
set_option linter.unusedVariables false
set_option linter.unusedSimpArgs false
namespace Go.Proofs.Ytpmffboojkfpdaa
open Go.RowKit

theorem res_facts {W : World} {b : Nat} {v : Value} {t : TypeId} (h : W.heap[b]? = some (.cells #[v] t (0, 0))) : W.cell? ⟨b, 0, none⟩ = some v ∧ W.frozen? ⟨b, 0, none⟩ = false ∧ b < W.heap.size :=
  ⟨by rw [cell_of_row _ _ _ _ _ (0, 0) h]; rfl, frozen_of_row _ _ 0 _ _ h, (Array.getElem?_eq_some_iff.1 h).1⟩
/-- One profile in its box, two places for results. -/
structure DM (w W : World) (g K pb rb r2 : Nat) (a : Option Addr) (n c : Nat) (L : List Int) : Prop where
  db : DB w W g K pb rb a n c L
  res2 : W.heap[r2]? = some (.cells #[.slice none 0 0] 26 (0, 0))
  apart : r2 ≠ g ∧ r2 ≠ rb ∧ r2 ≠ pb ∧ pb ≠ rb ∧ w.heap.size ≤ r2
  fr2 : ∀ b o, a = some ⟨b, o, none⟩ → b ≠ r2
/-- And a second profile. -/
structure DN (w W : World) (g K pb rb r2 : Nat) (a : Option Addr) (n c : Nat) (L : List Int) (a2 : Option Addr) (n2 : Nat) (L2 : List Int) : Prop where
  dm : DM w W g K pb rb r2 a n c L
  ia2 : IntsAt W a2 n2 L2
  far : ∀ b o, a2 = some ⟨b, o, none⟩ → b ≠ g ∧ b ≠ rb ∧ b ≠ r2
section
variable {w W W' : World} {g K pb rb r2 n c n2 : Nat} {a a2 : Option Addr} {L L2 : List Int}
theorem DM.step {K' : Nat} (h : DM w W g K pb rb r2 a n c L) (hc : Cur W' g K') (hg : W.grownBy W' (some g)) : DM w W' g K' pb rb r2 a n c L :=
  ⟨h.db.step hc hg, (hg.block r2 (Array.getElem?_eq_some_iff.1 h.res2).1 (fun e => h.apart.1 (Option.some.inj e))).trans h.res2, h.apart, h.fr2⟩
theorem DM.below (h : DM w W g K pb rb r2 a n c L) (hb : Below W.heap.size W W') : DM w W' g K pb rb r2 a n c L := h.step (h.db.cur.below hb) (grown_of_below hb _)
theorem DM.cell (h : DM w W g K pb rb r2 a n c L) : W.cell? ⟨pb, 0, none⟩ = some (.slice a n c) := h.db.cell
theorem DM.cur (h : DM w W g K pb rb r2 a n c L) : Cur W g K := h.db.cur
theorem DM.rlt (h : DM w W g K pb rb r2 a n c L) : rb < W.heap.size ∧ r2 < W.heap.size ∧ g < W.heap.size := ⟨h.db.rz, (Array.getElem?_eq_some_iff.1 h.res2).1, h.db.cur.lt⟩
theorem DM.second {K' : Nat} (h : DM w W g K pb rb r2 a n c L) (hc : Cur W' g K') (hg : W.grownBy W' (some g)) (hi : IntsAt W' a2 n2 L2) (hf : ∀ b o, a2 = some ⟨b, o, none⟩ → W.heap.size ≤ b) : DN w W' g K' pb rb r2 a n c L a2 n2 L2 :=
  ⟨h.step hc hg, hi, fun b o e => by have := hf b o e; have := h.rlt; omega⟩
theorem DN.step {K' : Nat} (h : DN w W g K pb rb r2 a n c L a2 n2 L2) (hc : Cur W' g K') (hg : W.grownBy W' (some g)) : DN w W' g K' pb rb r2 a n c L a2 n2 L2 :=
  ⟨h.dm.step hc hg, h.ia2.kept hg (fun b o e e2 => (h.far b o e).1 (Option.some.inj e2)), h.far⟩
theorem DN.below (h : DN w W g K pb rb r2 a n c L a2 n2 L2) (hb : Below W.heap.size W W') : DN w W' g K pb rb r2 a n c L a2 n2 L2 := h.step (h.dm.db.cur.below hb) (grown_of_below hb _)
theorem DN.cell (h : DN w W g K pb rb r2 a n c L a2 n2 L2) : W.cell? ⟨pb, 0, none⟩ = some (.slice a n c) := h.dm.db.cell
theorem DN.cur (h : DN w W g K pb rb r2 a n c L a2 n2 L2) : Cur W g K := h.dm.db.cur
end
/-- The first result is laid. -/
structure DO1 (w W : World) (pb rb r2 : Nat) (a : Option Addr) (n c : Nat) (L : List Int) (a2 : Option Addr) (n2 : Nat) (L2 : List Int) : Prop where
  bel : Below w.heap.size w W
  ia : IntsAt W a n L
  ia2 : IntsAt W a2 n2 L2
  box : W.cell? ⟨pb, 0, none⟩ = some (.slice a n c)
  res1 : W.heap[rb]? = some (.cells #[.slice a n c] 26 (0, 0))
  res2 : W.heap[r2]? = some (.cells #[.slice none 0 0] 26 (0, 0))
  lo : w.heap.size ≤ r2 ∧ r2 ≠ rb ∧ r2 ≠ pb
  fr : (∀ b o, a = some ⟨b, o, none⟩ → b ≠ r2) ∧ ∀ b o, a2 = some ⟨b, o, none⟩ → b ≠ r2
theorem DN.fin {w W : World} {g K pb rb r2 n c n2 : Nat} {a a2 : Option Addr} {L L2 : List Int} (h : DN w W g K pb rb r2 a n c L a2 n2 L2) : DO1 w (W.setCell ⟨rb, 0, none⟩ (.slice a n c)) pb rb r2 a n c L a2 n2 L2 := by
  have d := h.dm.db.fin h.dm.apart.2.2.2.1
  exact ⟨d.bel, d.ia, h.ia2.kept (grown_setCell W rb 0 _) (fun b o e e2 => (h.far b o e).2.1 (Option.some.inj e2)), d.box, d.res, other_cell h.dm.res2 (fun e => h.dm.apart.2.1 e), ⟨h.dm.apart.2.2.2.2, h.dm.apart.2.1, h.dm.apart.2.2.1⟩, h.dm.fr2, fun b o e => (h.far b o e).2.2⟩
/-- Both are laid. -/
structure DO2 (w W : World) (pb rb r2 : Nat) (a : Option Addr) (n c : Nat) (L : List Int) (a2 : Option Addr) (n2 c2 : Nat) (L2 : List Int) : Prop where
  bel : Below w.heap.size w W
  ia : IntsAt W a n L
  ia2 : IntsAt W a2 n2 L2
  box : W.cell? ⟨pb, 0, none⟩ = some (.slice a n c)
  res1 : W.heap[rb]? = some (.cells #[.slice a n c] 26 (0, 0))
  res2 : W.heap[r2]? = some (.cells #[.slice a2 n2 c2] 26 (0, 0))
theorem DO1.fin {w W : World} {pb rb r2 n c n2 c2 : Nat} {a a2 : Option Addr} {L L2 : List Int} (h : DO1 w W pb rb r2 a n c L a2 n2 L2) : DO2 w (W.setCell ⟨r2, 0, none⟩ (.slice a2 n2 c2)) pb rb r2 a n c L a2 n2 c2 L2 := by
  refine ⟨h.bel.setCell h.lo.1 _, h.ia.kept (grown_setCell W r2 0 _) (fun b o e e2 => h.fr.1 b o e (Option.some.inj e2)), h.ia2.kept (grown_setCell W r2 0 _) (fun b o e e2 => h.fr.2 b o e (Option.some.inj e2)), ?_, other_cell h.res1 (fun e => h.lo.2.1 e.symm), ?_⟩
  · rw [World.cell?_setCell_far _ _ _ _ h.lo.2.2]
    exact h.box
  · have e := heap_setCell_same _ _ 0 _ _ (.slice a2 n2 c2) h.res2
    simpa using e

set_option maxRecDepth 100000 in
set_option maxHeartbeats 16000000 in
theorem s_DrawMixProfiles (a0 : Option Addr) (n0 c0 : Nat) (w : World) (h : BytesAt w a0 n0) :
    Calls Try.prog 42 #[.slice a0 n0 c0] w fun e w' => ∃ (a : Option Addr) (n c : Nat) (L : List Int) (a2 : Option Addr) (n2 c2 : Nat) (L2 : List Int) (q : Int), e = .returned (.tuple #[.agg #[.slice a n c], .agg #[.slice a2 n2 c2], .int .i64 q]) ∧ ((IntsAt w' a n L ∧ n ≤ 24) ∧ IntsAt w' a2 n2 L2 ∧ n2 ≤ 24) ∧ Below w.heap.size w w' := by
  have H := hid h
  clear h
  go_enter Try.func42, Try.ntmps42
  go_upto_region 2 with fail
  have C0 := hid (Cur.start (c := c0) (g := w.heap.size + 1 + 1) (H.out.below (by go_grown : Below w.heap.size w ((w.alloc (.cells #[.slice none 0 0] 26)).alloc (.cells #[.slice none 0 0] 26)))) (by simp))
  have R0 : (((w.alloc (.cells #[.slice none 0 0] 26)).alloc (.cells #[.slice none 0 0] 26)).alloc (.cells #[.slice a0 n0 c0, .int .i64 0, .int .u64 0] 85)).heap[w.heap.size]? = some (.cells #[.slice none 0 0] 26 (0, 0)) := (Below.heap_alloc _ _ _ (by simp <;> omega)).trans ((Below.heap_alloc _ _ _ (by simp)).trans (heap_alloc_new _ _))
  have R1 : (((w.alloc (.cells #[.slice none 0 0] 26)).alloc (.cells #[.slice none 0 0] 26)).alloc (.cells #[.slice a0 n0 c0, .int .i64 0, .int .u64 0] 85)).heap[w.heap.size + 1]? = some (.cells #[.slice none 0 0] 26 (0, 0)) := (Below.heap_alloc _ _ _ (by simp)).trans (last_newP (w.alloc _) _ _ (by simp))
  have B0 : Below w.heap.size w (((w.alloc (.cells #[.slice none 0 0] 26)).alloc (.cells #[.slice none 0 0] 26)).alloc (.cells #[.slice a0 n0 c0, .int .i64 0, .int .u64 0] 85)) := by go_grown
  have hz0 : (((w.alloc (.cells #[.slice none 0 0] 26)).alloc (.cells #[.slice none 0 0] 26)).alloc (.cells #[.slice a0 n0 c0, .int .i64 0, .int .u64 0] 85)).heap.size = w.heap.size + 1 + 1 + 1 := by simp
  generalize ((w.alloc (.cells #[.slice none 0 0] 26)).alloc (.cells #[.slice none 0 0] 26)).alloc (.cells #[.slice a0 n0 c0, .int .i64 0, .int .u64 0] 85) = w0 at *
  go_wp2_with fail
  refine (c_profile _ 0 _ C0.out (by omega)).mono ?_
  rintro e w1 ⟨⟨a, n, c, rfl, hn, L, hI, hfr⟩, hc1, hg1⟩
  have hz1 := hg1.size
  have S1 := hid (show DM w (w1.alloc (.cells #[.slice a n c] 26)) (w.heap.size + 1 + 1) 100 w1.heap.size w.heap.size (w.heap.size + 1) a n c L from
    ⟨⟨hc1.below (by go_grown), (B0.grown hg1 (by omega) (fun q e => by have := Option.some.inj e; omega)).alloc (by omega) _, hI.below (by go_grown), heap_alloc_new _ _,
      (Below.heap_alloc _ _ _ (by omega)).trans ((hg1.block w.heap.size (by omega) (fun e => by have := Option.some.inj e; omega)).trans R0), by omega, by omega, by omega, fun b o e => by have := hfr b o e; omega⟩,
      (Below.heap_alloc _ _ _ (by omega)).trans ((hg1.block (w.heap.size + 1) (by omega) (fun e => by have := Option.some.inj e; omega)).trans R1), by omega, fun b o e => by have := hfr b o e; omega⟩)
  clear C0 R0 R1 B0 hI hfr hc1 hg1
  go_upto_region 3 with fail
  generalize w1.alloc (.cells #[.slice a n c] 26) = w2 at *
  generalize w1.heap.size = pb at *
  have m0 := S1.out.cell
  refine wp_region_noPanic ?_
  refine wp_region_held_drew (S := (fun w' => w'.cell? ⟨pb, 0, none⟩ = some (.slice a n c))) (by kernel_rfl) (by exact m0) (fun hHeld => ?_)
  refine wpAnyH_take' (i := 0) (v := ?_) rfl (by kernel_rfl) (by kernel_rfl) (by kernel_rfl) (fun _ _ _ h => h) (Or.inl ⟨by rfl, ?_⟩) (by assumption) ?_
  rotate_left
  · (intro w' hSw; (try dsimp only at hSw); go_simp; all_goals with_reducible rfl)
  try simp only [Act.put, List.setIfInBounds_toArray, List.set_cons_zero, List.set_cons_succ]
  refine wpAnyH_take' (i := 1) (v := ?_) rfl (by kernel_rfl) (by kernel_rfl) (by kernel_rfl) (fun _ _ _ h => h) (Or.inl ⟨by rfl, ?_⟩) (by assumption) ?_
  rotate_left
  · (intro w' hSw; (try dsimp only at hSw); go_simp; all_goals with_reducible rfl)
  try simp only [Act.put, List.setIfInBounds_toArray, List.set_cons_zero, List.set_cons_succ]
  refine wpAnyH_take' (i := 3) (v := ?_) rfl (by kernel_rfl) (by kernel_rfl) (by kernel_rfl) (fun _ _ _ h => h) (Or.inl ⟨by rfl, ?_⟩) (by assumption) ?_
  rotate_left
  · (intro w' hSw; (try dsimp only at hSw); go_simp; all_goals with_reducible rfl)
  try simp only [Act.put, List.setIfInBounds_toArray, List.set_cons_zero, List.set_cons_succ]
  refine wpAnyH_take' (i := 5) (v := ?_) rfl (by kernel_rfl) (by kernel_rfl) (by kernel_rfl) (fun _ _ _ h => h) (Or.inl ⟨by rfl, ?_⟩) (by assumption) ?_
  rotate_left
  · (intro w' hSw; (try dsimp only at hSw); go_simp; all_goals with_reducible rfl)
  try simp only [Act.put, List.setIfInBounds_toArray, List.set_cons_zero, List.set_cons_succ]
  refine wpAnyH_ready (rs := [2, 4]) (by kernel_rfl) (by simp) ?_
  refine allReadyH_cons' rfl (fun Kn hKn => ?_) (allReadyH_cons' rfl (fun Kn hKn => ?_) AllReadyH.nil)
  · go_simp
    go_at_call 86
    have hszb := hid ((S1.out.below ((Below.refl _ _).drew)).rlt)
    refine (c_profile _ _ _ (by exact (S1.out.below ((Below.refl _ _).drew)).cur) (by omega)).mono ?_
    rintro e wc2 ⟨⟨a2, n2, c2, rfl, hn2, L2, hI2, hf2⟩, hc, hg⟩
    have SC2 := hid (DM.second (S1.out.below ((Below.refl _ _).drew)) hc hg hI2 hf2)
    clear hI2 hf2 hszb
    clear hc hg
    refine hKn.out _ _ (SC2.out.cell) (fun hHeldN => ?_)
    clear hKn Kn hHeld
    have hHeld := hHeldN
    clear hHeldN
    try simp only [Act.put, List.setIfInBounds_toArray, List.set_cons_zero, List.set_cons_succ]
    refine wpAnyH_ready (rs := [4, 6]) (by kernel_rfl) (by simp) ?_
    refine allReadyH_cons' rfl (fun Kn hKn => ?_) (allReadyH_cons' rfl (fun Kn hKn => ?_) AllReadyH.nil)
    · go_simp
      have SV := hid (SC2.out.below (by go_grown : Below wc2.heap.size wc2 ((wc2.alloc (.cells #[.int .i64 0, .int .i64 1, .int .i64 50, .int .i64 99, .int .i64 100, .int .i64 (-1), .int .i64 101] 3)))))
      have IV := hid (show IntsAt ((wc2.alloc (.cells #[.int .i64 0, .int .i64 1, .int .i64 50, .int .i64 99, .int .i64 100, .int .i64 (-1), .int .i64 101] 3))) (some ⟨wc2.heap.size, 0, none⟩) 7 [0, 1, 50, 99, 100, -1, 101] from IntsAt.lit' wc2 3 [0, 1, 50, 99, 100, -1, 101] rfl rfl)
      have hgv := SC2.out.cur.lt
      refine hKn.out _ _ (SV.out.cell) (fun hHeldN => ?_)
      clear hKn Kn hHeld
      have hHeld := hHeldN
      clear hHeldN
      try simp only [Act.put, List.setIfInBounds_toArray, List.set_cons_zero, List.set_cons_succ]
      obtain ⟨lb, hlb⟩ : ∃ lb, wc2.heap.size = lb := ⟨_, rfl⟩
      rw [hlb] at IV ⊢
      have hlg : w.heap.size + 1 + 1 < lb := by omega
      clear hlb hgv
      generalize (wc2.alloc (.cells #[.int .i64 0, .int .i64 1, .int .i64 50, .int .i64 99, .int .i64 100, .int .i64 (-1), .int .i64 101] 3)) = wv at *
      refine wpAnyH_ready (rs := [6]) (by kernel_rfl) (by simp) ?_
      refine allReadyH_cons' rfl (fun Kn hKn => ?_) AllReadyH.nil
      go_simp
      go_at_call 92
      refine (c_pick _ _ 24 _ (by exact SV.out.cur) (by omega) (by omega)).mono ?_
      rintro e wc6 ⟨⟨v, rfl, hv0, hv1⟩, hc, hg⟩
      have SC6 := hid (SV.out.step hc hg)
      replace IV := hid (IV.out.kept hg (fun b o e e2 => by simp only [Option.some.injEq, Addr.mk.injEq] at e; have := Option.some.inj e2; omega))
      clear hc hg
      refine hKn.out _ _ (SC6.out.cell) (fun hHeldN => ?_)
      clear hKn Kn hHeld
      have hHeld := hHeldN
      clear hHeldN
      try simp only [Act.put, List.setIfInBounds_toArray, List.set_cons_zero, List.set_cons_succ]
      obtain ⟨k, hk⟩ : ∃ k : Nat, 5 + v.tdiv 11 = (k : Int) := ⟨(5 + v.tdiv 11).toNat, by rw [Int.tdiv_eq_ediv_of_nonneg hv0]; omega⟩
      have hk2 : 5 ≤ k ∧ k ≤ 7 := by rw [Int.tdiv_eq_ediv_of_nonneg hv0] at hk; omega
      have hw1 : IntKind.i64.wrap (v.tdiv 11) = v.tdiv 11 := IntWalk.i64_in _ (by rw [Int.tdiv_eq_ediv_of_nonneg hv0]; omega)
      have hw2 : IntKind.i64.wrap (5 + v.tdiv 11) = (k : Int) := by rw [hk]; exact IntWalk.i64_in _ (by omega)
      have hk3 : (k : Int) ≤ 7 := by omega
      clear hv0 hv1 hk
      refine wpAnyH_take' (i := 7) (v := ?_) rfl (by kernel_rfl) (by kernel_rfl) (by kernel_rfl) (fun _ _ _ h => h) (Or.inl ⟨by rfl, ?_⟩) (by assumption) ?_
      rotate_left
      · (intro w' hSw; (try dsimp only at hSw); go_simp; all_goals with_reducible rfl)
      try simp only [Act.put, List.setIfInBounds_toArray, List.set_cons_zero, List.set_cons_succ]
      refine wpAnyH_take' (i := 8) (v := ?_) rfl (by kernel_rfl) (by kernel_rfl) (by kernel_rfl) (fun _ _ _ h => h) (Or.inl ⟨by rfl, ?_⟩) (by assumption) ?_
      rotate_left
      · (intro w' hSw; (try dsimp only at hSw); go_simp; all_goals with_reducible rfl)
      try simp only [Act.put, List.setIfInBounds_toArray, List.set_cons_zero, List.set_cons_succ]
      refine wpAnyH_take' (i := 9) (v := ?_) rfl (by kernel_rfl) (by kernel_rfl) (by kernel_rfl) (fun _ _ _ h => h) (Or.inl ⟨by rfl, ?_⟩) (by assumption) ?_
      rotate_left
      · (intro w' hSw; (try dsimp only at hSw); go_simp; all_goals with_reducible rfl)
      try simp only [Act.put, List.setIfInBounds_toArray, List.set_cons_zero, List.set_cons_succ]
      refine wpAnyH_ready (rs := [10]) (by kernel_rfl) (by simp) ?_
      refine allReadyH_cons' rfl (fun Kn hKn => ?_) AllReadyH.nil
      go_simp
      go_at_call 91
      refine (c_among _ _ _ k _ ([0, 1, 50, 99, 100, -1, 101].take k) _ (by exact SC6.out.cur) (by omega) (by exact ints_take IV.out (by omega)) (by omega) (by omega) (by omega)).mono ?_
      rintro e wu ⟨⟨u, rfl, hu⟩, hc, hg⟩
      have SU := hid (SC6.out.step hc hg)
      clear hc hg hu
      refine hKn.out _ _ (SU.out.cell) (fun hHeldN => ?_)
      clear hKn Kn hHeld
      have hHeld := hHeldN
      clear hHeldN
      try simp only [Act.put, List.setIfInBounds_toArray, List.set_cons_zero, List.set_cons_succ]
      obtain ⟨n0, g0, hrz⟩ := res_facts SU.out.dm.db.res
      refine wpAnyH_ready (rs := [11]) (by kernel_rfl) (by simp) ?_
      refine allReadyH_cons' rfl (fun Kn hKn => ?_) AllReadyH.nil
      go_simp
      have DO := hid SU.out.fin
      refine hKn.out _ _ (DO.out.box) (fun hHeldN => ?_)
      clear hKn Kn hHeld
      have hHeld := hHeldN
      clear hHeldN
      try simp only [Act.put, List.setIfInBounds_toArray, List.set_cons_zero, List.set_cons_succ]
      clear n0 g0 hrz
      generalize (wu).setCell ⟨w.heap.size, 0, none⟩ (.slice a n c) = w7 at *
      obtain ⟨n0, g0, hrz⟩ := res_facts DO.out.res2
      refine wpAnyH_ready (rs := [12]) (by kernel_rfl) (by simp) ?_
      refine allReadyH_cons' rfl (fun Kn hKn => ?_) AllReadyH.nil
      go_simp
      have DD := hid (DO.out.fin (c2 := c2))
      refine hKn.out _ _ (DD.out.box) (fun hHeldN => ?_)
      clear hKn Kn hHeld
      have hHeld := hHeldN
      clear hHeldN
      try simp only [Act.put, List.setIfInBounds_toArray, List.set_cons_zero, List.set_cons_succ]
      clear n0 g0 hrz
      generalize (w7).setCell ⟨w.heap.size + 1, 0, none⟩ (.slice a2 n2 c2) = w8 at *
      refine wpAnyH_take' (i := 13) (v := ?_) rfl (by kernel_rfl) (by kernel_rfl) (by kernel_rfl) (fun _ _ _ h => h) (Or.inl ⟨by rfl, ?_⟩) (by assumption) ?_
      rotate_left
      · (intro w' hSw; (try dsimp only at hSw); go_simp; all_goals with_reducible rfl)
      try simp only [Act.put, List.setIfInBounds_toArray, List.set_cons_zero, List.set_cons_succ]
      refine wpAnyH_done (by kernel_rfl) ?_ _
      refine NoPanic.normal ?_
      clear hHeld
      go_wp2
      have u0 := cell_of_row _ _ 0 _ _ (0, 0) DD.out.res1
      have u1 := cell_of_row _ _ 0 _ _ (0, 0) DD.out.res2
      simp only [List.getElem?_toArray, List.getElem?_cons_zero] at u0 u1
      refine bodyPost_ret (v := .tuple #[.agg #[.slice a n c], .agg #[.slice a2 n2 c2], .int .i64 u]) (by simp [results, Try.results42, go_sem, *]) rfl ⟨a, n, c, L, a2, n2, c2, L2, u, rfl, ⟨⟨DD.out.ia, hn⟩, DD.out.ia2, hn2⟩, DD.out.bel⟩
    · go_simp
      go_at_call 92
      refine (c_pick _ _ 24 _ (by exact SC2.out.cur) (by omega) (by omega)).mono ?_
      rintro e wc6 ⟨⟨v, rfl, hv0, hv1⟩, hc, hg⟩
      have SC6 := hid (SC2.out.step hc hg)
      clear hc hg
      refine hKn.out _ _ (SC6.out.cell) (fun hHeldN => ?_)
      clear hKn Kn hHeld
      have hHeld := hHeldN
      clear hHeldN
      try simp only [Act.put, List.setIfInBounds_toArray, List.set_cons_zero, List.set_cons_succ]
      obtain ⟨k, hk⟩ : ∃ k : Nat, 5 + v.tdiv 11 = (k : Int) := ⟨(5 + v.tdiv 11).toNat, by rw [Int.tdiv_eq_ediv_of_nonneg hv0]; omega⟩
      have hk2 : 5 ≤ k ∧ k ≤ 7 := by rw [Int.tdiv_eq_ediv_of_nonneg hv0] at hk; omega
      have hw1 : IntKind.i64.wrap (v.tdiv 11) = v.tdiv 11 := IntWalk.i64_in _ (by rw [Int.tdiv_eq_ediv_of_nonneg hv0]; omega)
      have hw2 : IntKind.i64.wrap (5 + v.tdiv 11) = (k : Int) := by rw [hk]; exact IntWalk.i64_in _ (by omega)
      have hk3 : (k : Int) ≤ 7 := by omega
      clear hv0 hv1 hk
      refine wpAnyH_take' (i := 7) (v := ?_) rfl (by kernel_rfl) (by kernel_rfl) (by kernel_rfl) (fun _ _ _ h => h) (Or.inl ⟨by rfl, ?_⟩) (by assumption) ?_
      rotate_left
      · (intro w' hSw; (try dsimp only at hSw); go_simp; all_goals with_reducible rfl)
      try simp only [Act.put, List.setIfInBounds_toArray, List.set_cons_zero, List.set_cons_succ]
      refine wpAnyH_take' (i := 8) (v := ?_) rfl (by kernel_rfl) (by kernel_rfl) (by kernel_rfl) (fun _ _ _ h => h) (Or.inl ⟨by rfl, ?_⟩) (by assumption) ?_
      rotate_left
      · (intro w' hSw; (try dsimp only at hSw); go_simp; all_goals with_reducible rfl)
      try simp only [Act.put, List.setIfInBounds_toArray, List.set_cons_zero, List.set_cons_succ]
      refine wpAnyH_ready (rs := [4]) (by kernel_rfl) (by simp) ?_
      refine allReadyH_cons' rfl (fun Kn hKn => ?_) AllReadyH.nil
      go_simp
      have SV := hid (SC6.out.below (by go_grown : Below wc6.heap.size wc6 ((wc6.alloc (.cells #[.int .i64 0, .int .i64 1, .int .i64 50, .int .i64 99, .int .i64 100, .int .i64 (-1), .int .i64 101] 3)))))
      have IV := hid (show IntsAt ((wc6.alloc (.cells #[.int .i64 0, .int .i64 1, .int .i64 50, .int .i64 99, .int .i64 100, .int .i64 (-1), .int .i64 101] 3))) (some ⟨wc6.heap.size, 0, none⟩) 7 [0, 1, 50, 99, 100, -1, 101] from IntsAt.lit' wc6 3 [0, 1, 50, 99, 100, -1, 101] rfl rfl)
      have hgv := SC6.out.cur.lt
      refine hKn.out _ _ (SV.out.cell) (fun hHeldN => ?_)
      clear hKn Kn hHeld
      have hHeld := hHeldN
      clear hHeldN
      try simp only [Act.put, List.setIfInBounds_toArray, List.set_cons_zero, List.set_cons_succ]
      obtain ⟨lb, hlb⟩ : ∃ lb, wc6.heap.size = lb := ⟨_, rfl⟩
      rw [hlb] at IV ⊢
      have hlg : w.heap.size + 1 + 1 < lb := by omega
      clear hlb hgv
      generalize (wc6.alloc (.cells #[.int .i64 0, .int .i64 1, .int .i64 50, .int .i64 99, .int .i64 100, .int .i64 (-1), .int .i64 101] 3)) = wv at *
      refine wpAnyH_take' (i := 9) (v := ?_) rfl (by kernel_rfl) (by kernel_rfl) (by kernel_rfl) (fun _ _ _ h => h) (Or.inl ⟨by rfl, ?_⟩) (by assumption) ?_
      rotate_left
      · (intro w' hSw; (try dsimp only at hSw); go_simp; all_goals with_reducible rfl)
      try simp only [Act.put, List.setIfInBounds_toArray, List.set_cons_zero, List.set_cons_succ]
      refine wpAnyH_ready (rs := [10]) (by kernel_rfl) (by simp) ?_
      refine allReadyH_cons' rfl (fun Kn hKn => ?_) AllReadyH.nil
      go_simp
      go_at_call 91
      refine (c_among _ _ _ k _ ([0, 1, 50, 99, 100, -1, 101].take k) _ (by exact SV.out.cur) (by omega) (by exact ints_take IV.out (by omega)) (by omega) (by omega) (by omega)).mono ?_
      rintro e wu ⟨⟨u, rfl, hu⟩, hc, hg⟩
      have SU := hid (SV.out.step hc hg)
      clear hc hg hu
      refine hKn.out _ _ (SU.out.cell) (fun hHeldN => ?_)
      clear hKn Kn hHeld
      have hHeld := hHeldN
      clear hHeldN
      try simp only [Act.put, List.setIfInBounds_toArray, List.set_cons_zero, List.set_cons_succ]
      obtain ⟨n0, g0, hrz⟩ := res_facts SU.out.dm.db.res
      refine wpAnyH_ready (rs := [11]) (by kernel_rfl) (by simp) ?_
      refine allReadyH_cons' rfl (fun Kn hKn => ?_) AllReadyH.nil
      go_simp
      have DO := hid SU.out.fin
      refine hKn.out _ _ (DO.out.box) (fun hHeldN => ?_)
      clear hKn Kn hHeld
      have hHeld := hHeldN
      clear hHeldN
      try simp only [Act.put, List.setIfInBounds_toArray, List.set_cons_zero, List.set_cons_succ]
      clear n0 g0 hrz
      generalize (wu).setCell ⟨w.heap.size, 0, none⟩ (.slice a n c) = w7 at *
      obtain ⟨n0, g0, hrz⟩ := res_facts DO.out.res2
      refine wpAnyH_ready (rs := [12]) (by kernel_rfl) (by simp) ?_
      refine allReadyH_cons' rfl (fun Kn hKn => ?_) AllReadyH.nil
      go_simp
      have DD := hid (DO.out.fin (c2 := c2))
      refine hKn.out _ _ (DD.out.box) (fun hHeldN => ?_)
      clear hKn Kn hHeld
      have hHeld := hHeldN
      clear hHeldN
      try simp only [Act.put, List.setIfInBounds_toArray, List.set_cons_zero, List.set_cons_succ]
      clear n0 g0 hrz
      generalize (w7).setCell ⟨w.heap.size + 1, 0, none⟩ (.slice a2 n2 c2) = w8 at *
      refine wpAnyH_take' (i := 13) (v := ?_) rfl (by kernel_rfl) (by kernel_rfl) (by kernel_rfl) (fun _ _ _ h => h) (Or.inl ⟨by rfl, ?_⟩) (by assumption) ?_
      rotate_left
      · (intro w' hSw; (try dsimp only at hSw); go_simp; all_goals with_reducible rfl)
      try simp only [Act.put, List.setIfInBounds_toArray, List.set_cons_zero, List.set_cons_succ]
      refine wpAnyH_done (by kernel_rfl) ?_ _
      refine NoPanic.normal ?_
      clear hHeld
      go_wp2
      have u0 := cell_of_row _ _ 0 _ _ (0, 0) DD.out.res1
      have u1 := cell_of_row _ _ 0 _ _ (0, 0) DD.out.res2
      simp only [List.getElem?_toArray, List.getElem?_cons_zero] at u0 u1
      refine bodyPost_ret (v := .tuple #[.agg #[.slice a n c], .agg #[.slice a2 n2 c2], .int .i64 u]) (by simp [results, Try.results42, go_sem, *]) rfl ⟨a, n, c, L, a2, n2, c2, L2, u, rfl, ⟨⟨DD.out.ia, hn⟩, DD.out.ia2, hn2⟩, DD.out.bel⟩
  · go_simp
    have SV := hid (S1.out.below (by go_grown : Below w2.heap.size w2 ((w2.alloc (.cells #[.int .i64 0, .int .i64 1, .int .i64 50, .int .i64 99, .int .i64 100, .int .i64 (-1), .int .i64 101] 3)).drew)))
    have IV := hid (show IntsAt ((w2.alloc (.cells #[.int .i64 0, .int .i64 1, .int .i64 50, .int .i64 99, .int .i64 100, .int .i64 (-1), .int .i64 101] 3)).drew) (some ⟨w2.heap.size, 0, none⟩) 7 [0, 1, 50, 99, 100, -1, 101] from IntsAt.below (IntsAt.lit' w2 3 [0, 1, 50, 99, 100, -1, 101] rfl rfl) ((Below.refl _ _).drew))
    have hgv := S1.out.cur.lt
    refine hKn.out _ _ (SV.out.cell) (fun hHeldN => ?_)
    clear hKn Kn hHeld
    have hHeld := hHeldN
    clear hHeldN
    try simp only [Act.put, List.setIfInBounds_toArray, List.set_cons_zero, List.set_cons_succ]
    obtain ⟨lb, hlb⟩ : ∃ lb, w2.heap.size = lb := ⟨_, rfl⟩
    rw [hlb] at IV ⊢
    have hlg : w.heap.size + 1 + 1 < lb := by omega
    clear hlb hgv
    generalize (w2.alloc (.cells #[.int .i64 0, .int .i64 1, .int .i64 50, .int .i64 99, .int .i64 100, .int .i64 (-1), .int .i64 101] 3)).drew = wv at *
    refine wpAnyH_ready (rs := [2]) (by kernel_rfl) (by simp) ?_
    refine allReadyH_cons' rfl (fun Kn hKn => ?_) AllReadyH.nil
    go_simp
    go_at_call 86
    have hszb := hid (SV.out.rlt)
    refine (c_profile _ _ _ (by exact SV.out.cur) (by omega)).mono ?_
    rintro e wc2 ⟨⟨a2, n2, c2, rfl, hn2, L2, hI2, hf2⟩, hc, hg⟩
    have SC2 := hid (DM.second SV.out hc hg hI2 hf2)
    clear hI2 hf2 hszb
    replace IV := hid (IV.out.kept hg (fun b o e e2 => by simp only [Option.some.injEq, Addr.mk.injEq] at e; have := Option.some.inj e2; omega))
    clear hc hg
    refine hKn.out _ _ (SC2.out.cell) (fun hHeldN => ?_)
    clear hKn Kn hHeld
    have hHeld := hHeldN
    clear hHeldN
    try simp only [Act.put, List.setIfInBounds_toArray, List.set_cons_zero, List.set_cons_succ]
    refine wpAnyH_ready (rs := [6]) (by kernel_rfl) (by simp) ?_
    refine allReadyH_cons' rfl (fun Kn hKn => ?_) AllReadyH.nil
    go_simp
    go_at_call 92
    refine (c_pick _ _ 24 _ (by exact SC2.out.cur) (by omega) (by omega)).mono ?_
    rintro e wc6 ⟨⟨v, rfl, hv0, hv1⟩, hc, hg⟩
    have SC6 := hid (SC2.out.step hc hg)
    replace IV := hid (IV.out.kept hg (fun b o e e2 => by simp only [Option.some.injEq, Addr.mk.injEq] at e; have := Option.some.inj e2; omega))
    clear hc hg
    refine hKn.out _ _ (SC6.out.cell) (fun hHeldN => ?_)
    clear hKn Kn hHeld
    have hHeld := hHeldN
    clear hHeldN
    try simp only [Act.put, List.setIfInBounds_toArray, List.set_cons_zero, List.set_cons_succ]
    obtain ⟨k, hk⟩ : ∃ k : Nat, 5 + v.tdiv 11 = (k : Int) := ⟨(5 + v.tdiv 11).toNat, by rw [Int.tdiv_eq_ediv_of_nonneg hv0]; omega⟩
    have hk2 : 5 ≤ k ∧ k ≤ 7 := by rw [Int.tdiv_eq_ediv_of_nonneg hv0] at hk; omega
    have hw1 : IntKind.i64.wrap (v.tdiv 11) = v.tdiv 11 := IntWalk.i64_in _ (by rw [Int.tdiv_eq_ediv_of_nonneg hv0]; omega)
    have hw2 : IntKind.i64.wrap (5 + v.tdiv 11) = (k : Int) := by rw [hk]; exact IntWalk.i64_in _ (by omega)
    have hk3 : (k : Int) ≤ 7 := by omega
    clear hv0 hv1 hk
    refine wpAnyH_take' (i := 7) (v := ?_) rfl (by kernel_rfl) (by kernel_rfl) (by kernel_rfl) (fun _ _ _ h => h) (Or.inl ⟨by rfl, ?_⟩) (by assumption) ?_
    rotate_left
    · (intro w' hSw; (try dsimp only at hSw); go_simp; all_goals with_reducible rfl)
    try simp only [Act.put, List.setIfInBounds_toArray, List.set_cons_zero, List.set_cons_succ]
    refine wpAnyH_take' (i := 8) (v := ?_) rfl (by kernel_rfl) (by kernel_rfl) (by kernel_rfl) (fun _ _ _ h => h) (Or.inl ⟨by rfl, ?_⟩) (by assumption) ?_
    rotate_left
    · (intro w' hSw; (try dsimp only at hSw); go_simp; all_goals with_reducible rfl)
    try simp only [Act.put, List.setIfInBounds_toArray, List.set_cons_zero, List.set_cons_succ]
    refine wpAnyH_take' (i := 9) (v := ?_) rfl (by kernel_rfl) (by kernel_rfl) (by kernel_rfl) (fun _ _ _ h => h) (Or.inl ⟨by rfl, ?_⟩) (by assumption) ?_
    rotate_left
    · (intro w' hSw; (try dsimp only at hSw); go_simp; all_goals with_reducible rfl)
    try simp only [Act.put, List.setIfInBounds_toArray, List.set_cons_zero, List.set_cons_succ]
    refine wpAnyH_ready (rs := [10]) (by kernel_rfl) (by simp) ?_
    refine allReadyH_cons' rfl (fun Kn hKn => ?_) AllReadyH.nil
    go_simp
    go_at_call 91
    refine (c_among _ _ _ k _ ([0, 1, 50, 99, 100, -1, 101].take k) _ (by exact SC6.out.cur) (by omega) (by exact ints_take IV.out (by omega)) (by omega) (by omega) (by omega)).mono ?_
    rintro e wu ⟨⟨u, rfl, hu⟩, hc, hg⟩
    have SU := hid (SC6.out.step hc hg)
    clear hc hg hu
    refine hKn.out _ _ (SU.out.cell) (fun hHeldN => ?_)
    clear hKn Kn hHeld
    have hHeld := hHeldN
    clear hHeldN
    try simp only [Act.put, List.setIfInBounds_toArray, List.set_cons_zero, List.set_cons_succ]
    obtain ⟨n0, g0, hrz⟩ := res_facts SU.out.dm.db.res
    refine wpAnyH_ready (rs := [11]) (by kernel_rfl) (by simp) ?_
    refine allReadyH_cons' rfl (fun Kn hKn => ?_) AllReadyH.nil
    go_simp
    have DO := hid SU.out.fin
    refine hKn.out _ _ (DO.out.box) (fun hHeldN => ?_)
    clear hKn Kn hHeld
    have hHeld := hHeldN
    clear hHeldN
    try simp only [Act.put, List.setIfInBounds_toArray, List.set_cons_zero, List.set_cons_succ]
    clear n0 g0 hrz
    generalize (wu).setCell ⟨w.heap.size, 0, none⟩ (.slice a n c) = w7 at *
    obtain ⟨n0, g0, hrz⟩ := res_facts DO.out.res2
    refine wpAnyH_ready (rs := [12]) (by kernel_rfl) (by simp) ?_
    refine allReadyH_cons' rfl (fun Kn hKn => ?_) AllReadyH.nil
    go_simp
    have DD := hid (DO.out.fin (c2 := c2))
    refine hKn.out _ _ (DD.out.box) (fun hHeldN => ?_)
    clear hKn Kn hHeld
    have hHeld := hHeldN
    clear hHeldN
    try simp only [Act.put, List.setIfInBounds_toArray, List.set_cons_zero, List.set_cons_succ]
    clear n0 g0 hrz
    generalize (w7).setCell ⟨w.heap.size + 1, 0, none⟩ (.slice a2 n2 c2) = w8 at *
    refine wpAnyH_take' (i := 13) (v := ?_) rfl (by kernel_rfl) (by kernel_rfl) (by kernel_rfl) (fun _ _ _ h => h) (Or.inl ⟨by rfl, ?_⟩) (by assumption) ?_
    rotate_left
    · (intro w' hSw; (try dsimp only at hSw); go_simp; all_goals with_reducible rfl)
    try simp only [Act.put, List.setIfInBounds_toArray, List.set_cons_zero, List.set_cons_succ]
    refine wpAnyH_done (by kernel_rfl) ?_ _
    refine NoPanic.normal ?_
    clear hHeld
    go_wp2
    have u0 := cell_of_row _ _ 0 _ _ (0, 0) DD.out.res1
    have u1 := cell_of_row _ _ 0 _ _ (0, 0) DD.out.res2
    simp only [List.getElem?_toArray, List.getElem?_cons_zero] at u0 u1
    refine bodyPost_ret (v := .tuple #[.agg #[.slice a n c], .agg #[.slice a2 n2 c2], .int .i64 u]) (by simp [results, Try.results42, go_sem, *]) rfl ⟨a, n, c, L, a2, n2, c2, L2, u, rfl, ⟨⟨DD.out.ia, hn⟩, DD.out.ia2, hn2⟩, DD.out.bel⟩

end Go.Proofs.Ytpmffboojkfpdaa

/-
  FlattenProfile in the program.
-/
set_option linter.unusedVariables false
set_option linter.unusedSimpArgs false
namespace Go.Proofs.Ytpmffboojkfpdaa
open Go.RowKit

theorem pk_max {L : List Int} {r : Int} (hl : L.length = 24) (h1 : r ∈ L) (h2 : ∀ x ∈ L, x ≤ r) : r = el L (pkTo L 24) := by
  have hp := pkTo_lt L 24 (by omega)
  obtain ⟨j, hj, rfl⟩ := mem_el h1
  have a := pkTo_max L 24 j (by omega)
  have b := h2 _ (getD_mem' (l := L) (k := pkTo L 24) (by omega))
  simp only [el] at a b ⊢
  omega
theorem lw_min {L : List Int} {r : Int} (hl : L.length = 24) (h1 : r ∈ L) (h2 : ∀ x ∈ L, r ≤ x) : r = el L (lwTo L 24) := by
  have hp := lwTo_lt L 24 (by omega)
  obtain ⟨j, hj, rfl⟩ := mem_el h1
  have a := lwTo_min L 24 j (by omega)
  have b := h2 _ (getD_mem' (l := L) (k := lwTo L 24) (by omega))
  simp only [el] at a b ⊢
  omega

set_option maxRecDepth 100000 in
set_option maxHeartbeats 4000000 in
theorem i_FlattenProfile_yes (a : Option Addr) (n c : Nat) (most : Int) (l : List Int) (w : World) (hA : IntsAt w a n l) (h1 : goodProf l = true) (h2 : inR most 100 1000 = true) :
    Calls Try.prog 27 #[.agg #[.slice a n c], .int .i64 most] w fun e w' => ∃ a' c', e = .returned (.tuple #[.agg #[.slice a' 24 c'], .bool true]) ∧ OwnI w' w.heap.size (.slice a' 24 c') (fin most l) ∧ Below w.heap.size w w' := by
  have hn : n = 24 := by have := hA.1; have := (goodProf_iff.1 h1).1; omega
  have hm := inR_iff.1 h2
  have H := hid hA
  have HG := hid h1
  have H2 := hid h2
  clear hA h1 h2
  subst hn
  go_enter Try.func27, Try.ntmps27
  go_wp2_with fail
  refine (i_IsValidProfile _ _ _ l _ (H.out.below (by go_grown)) (by omega)).mono ?_
  rintro e w1 ⟨rfl, hb1⟩
  rw [HG.out]
  have HB1 := hid (bstep (by go_grown) hb1 : Below w.heap.size w w1)
  have hz := hb1.size
  simp only [World.size_alloc] at hz
  have T1 := hid ((hb1.block (w.heap.size + 1) (by simp)).trans (last_newP (w.alloc _) _ _ (by simp)))
  have hz1 : w.heap.size + 1 < w1.heap.size := by omega
  have n0 : w1.cell? ⟨w.heap.size + 1, 0, none⟩ = some (.slice none 0 0) := by rw [cell_of_row w1 _ _ _ _ (0, 0) T1.out]; rfl
  have f0 := frozen_of_row w1 _ 0 _ _ T1.out
  have hb0 := (hb1.block w.heap.size (by simp <;> omega)).trans (mid_new w _ _ _ rfl)
  clear hb1
  have T0 := hid (hb0 : w1.heap[w.heap.size]? = some (.cells #[.slice a 24 c] 26 (0, 0)))
  have m0 : w1.cell? ⟨w.heap.size, 0, none⟩ = some (.slice a 24 c) := by rw [cell_of_row w1 _ _ _ _ (0, 0) T0.out]; rfl
  have hz0 : w.heap.size < w1.heap.size := by omega
  go_wp2_with fail
  refine (i_inside _ _ _ _).mono ?_
  rintro e _ ⟨rfl, rfl⟩
  rw [H2.out]
  clear n0 f0 hb0
  go_wp2_with fail
  refine (i_copyInts _ _ _ l _ (H.out.below HB1.out) (by omega)).mono ?_
  rintro e w2 ⟨a2, c2, rfl, ho, hb2⟩
  obtain ⟨g, rfl, hg1, hg2⟩ := own_some ho (by decide)
  have HO := hid ho
  have HB2 := hid (bstep HB1.out hb2)
  have T2 := hid ((hb2.block (w.heap.size + 1) hz1).trans T1.out)
  clear ho hb2 m0
  go_wp2
  go_loopg [] (exc most l).toNat (fun gh wr => ∃ L : List Int, gh = (exc most L).toNat ∧ Hid (OwnI wr w1.heap.size (.slice (some ⟨g, 0, none⟩) 24 c2) L ∧ goodProf L = true ∧ fin most L = fin most l ∧ Below w.heap.size w wr) ∧ Hid (wr.heap[w.heap.size + 1]? = some (.cells #[.slice none 0 0] 26 (0, 0))))
  case atStart => exact ⟨l, rfl, hid ⟨HO.out, HG.out, rfl, HB2.out⟩, T2⟩
  case round =>
    obtain ⟨L, rfl, hh, hT⟩ := hrel
    have hL := (goodProf_iff.1 hh.out.2.1).1
    have hpl := pkTo_lt L 24 (by omega)
    have htl := lwTo_lt L 24 (by omega)
    have hb : ∀ j, j < 24 → 0 ≤ el L j ∧ el L j ≤ 1000 := fun j hj => (goodProf_iff.1 hh.out.2.1).2.1 _ (getD_mem' (by omega))
    have hbp := hb _ hpl
    have hbt := hb _ htl
    clear hb
    go_wp2_with fail
    refine (f_Max _ _ _ L _ hh.out.1.at (by omega) (by omega)).mono ?_
    rintro e _ ⟨⟨r, rfl, r1, r2⟩, rfl⟩
    obtain rfl := pk_max hL r1 r2
    clear r1 r2
    by_cases hgt : most < el L (pkTo L 24)
    · have hlow := low_small hh.out.2.1 (by omega)
      have hne : pkTo L 24 ≠ lwTo L 24 := fun e => by rw [e] at hgt; omega
      have SG := hid (stepF_good hh.out.2.1 hm.1 hgt)
      have SF := hid (fin_step hh.out.2.1 hm.1 hgt)
      have hcp := hh.out.1.cell (k := pkTo L 24) hpl
      have hct := hh.out.1.cell (k := lwTo L 24) htl
      have hfp := hh.out.1.frozen (k := pkTo L 24)
      have hft := hh.out.1.frozen (k := lwTo L 24)
      have hex := exc_pos most (stepF L)
      have hex2 := SG.out.2
      go_wp2_with fail
      refine (f_Max _ _ _ L _ hh.out.1.at (by omega) (by omega)).mono ?_
      rintro e _ ⟨⟨r, rfl, r1, r2⟩, rfl⟩
      obtain rfl := pk_max hL r1 r2
      clear r1 r2
      go_wp2_with fail
      refine (f_Index _ _ _ (pkTo L 24) _ L _ hh.out.1.at (by omega) hpl rfl (fun j hj => by have := pkTo_first L 24 j hj; omega)).mono ?_
      rintro e _ ⟨rfl, rfl⟩
      go_wp2_with fail
      refine (f_Min _ _ _ L _ hh.out.1.at (by omega) (by omega)).mono ?_
      rintro e _ ⟨⟨r, rfl, r1, r2⟩, rfl⟩
      obtain rfl := lw_min hL r1 r2
      clear r1 r2
      go_wp2_with fail
      refine (f_Index _ _ _ (lwTo L 24) _ L _ hh.out.1.at (by omega) htl rfl (fun j hj => by have := lwTo_first L 24 j hj; omega)).mono ?_
      rintro e _ ⟨rfl, rfl⟩
      have hne2 : ¬ lwTo L 24 = pkTo L 24 := fun e => hne e.symm
      clear hL
      have hbp' : 0 ≤ L[pkTo L 24]?.getD 0 ∧ L[pkTo L 24]?.getD 0 ≤ 1000 := hbp
      have hbt' : 0 ≤ L[lwTo L 24]?.getD 0 ∧ L[lwTo L 24]?.getD 0 ≤ 1000 := hbt
      go_wp2
      go_roundg (exc most (stepF L)).toNat
      case rel =>
        obtain ⟨o1, o2⟩ := own_step hh.out.1 hne
        exact ⟨stepF L, rfl, hid ⟨o1, SG.out.1, SF.out.symm.trans hh.out.2.2.1, hh.out.2.2.2.grown o2 hh.out.2.2.2.size (fun q hq => by have := HB1.out.size; simp only [Option.some.injEq] at hq; omega)⟩, hid (other_cell (other_cell hT.out (by omega)) (by omega))⟩
      case measure => omega
    · have FD := hid (fin_done hgt)
      have hz9 : w.heap.size + 1 < wr.heap.size := (Array.getElem?_eq_some_iff.1 hT.out).1
      have n0 : wr.cell? ⟨w.heap.size + 1, 0, none⟩ = some (.slice none 0 0) := by rw [cell_of_row wr _ _ _ _ (0, 0) hT.out]; rfl
      have f0 := frozen_of_row wr _ 0 _ _ hT.out
      go_wp2
      have e7 := heap_setCell_same _ _ 0 _ _ (.slice (some ⟨g, 0, none⟩) 24 c2) hT.out
      have u0 := cell_of_row _ _ 0 _ _ (0, 0) e7
      simp only [List.setIfInBounds_toArray, List.set_cons_zero, List.getElem?_toArray, List.getElem?_cons_zero] at u0
      refine bodyPost_ret (v := .tuple #[.agg #[.slice (some ⟨g, 0, none⟩) 24 c2], .bool true]) (by simp [results, Try.results27, go_sem, *]) rfl ⟨_, _, rfl, ?_, ?_⟩
      · have e : fin most l = L := hh.out.2.2.1.symm.trans FD.out
        rw [e]
        exact (hh.out.1.far (by have := HB1.out.size; omega)).mono HB1.out.size
      · exact hh.out.2.2.2.setCell (by show _ ≤ w.heap.size + 1; omega) _

end Go.Proofs.Ytpmffboojkfpdaa

