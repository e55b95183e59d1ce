/-
  Texts of this claim, joined: CurN4, Span.
-/
import Derived.Test.YtikjighlnpdgiaaRr4
import Derived.Test.YtikjighlnpdgiaaRr5
import Derived.Test.YtikjighlnpdgiaaRr7
/-
  The draws of networks that may be invalid.
-/
set_option linter.unusedVariables false
set_option linter.unusedSimpArgs false
namespace Go.Proofs.Ytikjighlnpdgiaa
open Go.RowKit

/-- A network in a box at b, its pipes elsewhere, the cursor at g; memory has grown from w on. -/
structure NB (w W : World) (g b K : Nat) (N : Int) (a : Option Addr) (m c : Nat) (L : List Pip) : Prop where
  cur : Cur W g K
  gro : w.grownBy W (some g)
  box : W.heap[b]? = some (.cells #[.int .i64 N, .slice a m c] 31 (0, 0))
  own : OwnQ W w.heap.size (.slice a m c) L
  ne : ∀ k, Value.ownBlock (.slice a m c) = some k → k ≠ b
  lo : w.heap.size ≤ b
  gb : g < w.heap.size
section
variable {w W W' : World} {g b K : Nat} {N : Int} {a : Option Addr} {m c : Nat} {L : List Pip}
theorem NB.lt (h : NB w W g b K N a m c L) : b < W.heap.size := (Array.getElem?_eq_some_iff.1 h.box).1
theorem NB.step {K' : Nat} (h : NB w W g b K N a m c L) (hc : Cur W' g K') (hg : W.grownBy W' (some g)) : NB w W' g b K' N a m c L :=
  ⟨hc, grownBy_trans h.gro hg, (hg.block b h.lt (fun e => by have := Option.some.inj e; have := h.lo; have := h.gb; omega)).trans h.box, OwnS.kept h.own hg (ownQ_ne h.own h.gb), h.ne, h.lo, h.gb⟩
theorem NB.below (h : NB w W g b K N a m c L) (hb : Below W.heap.size W W') : NB w W' g b K N a m c L := h.step (h.cur.below hb) (grown_of_below hb _)
theorem NB.le {K' : Nat} (h : NB w W g b K N a m c L) (hk : K ≤ K') : NB w W g b K' N a m c L := ⟨h.cur.le hk, h.gro, h.box, h.own, h.ne, h.lo, h.gb⟩
theorem NB.other {p j : Nat} {u : Value} (h : NB w W g b K N a m c L) (hp : p ≠ b) (hw : w.heap.size ≤ p) (hr : ∀ k, Value.ownBlock (.slice a m c) = some k → k ≠ p) : NB w (W.setCell ⟨p, j, none⟩ u) g b K N a m c L := by
  refine ⟨h.cur.set (by have := h.gb; omega), grown_set h.gro hw, ?_, OwnS.kept h.own (grown_setCell W p j u) ?_, h.ne, h.lo, h.gb⟩
  · rw [← h.box]
    exact (grown_setCell W p j u).block b h.lt (fun e => hp (Option.some.inj e).symm)
  · cases e : Value.ownBlock (.slice a m c) with
    | none => exact .inl rfl
    | some k => exact .inr (fun e2 => hr k e (Option.some.inj e2))
/-- The pipes grown, and the header stored. -/
theorem NB.put {a' : Option Addr} {m' c' : Nat} {L' : List Pip} (h : NB w W g b K N a m c L) (hg : W.grownBy W' (Value.ownBlock (.slice a m c))) (ho : OwnQ W' w.heap.size (.slice a' m' c') L')
    (hk : Value.ownBlock (.slice a' m' c') = Value.ownBlock (.slice a m c) ∨ ∀ k, Value.ownBlock (.slice a' m' c') = some k → W.heap.size ≤ k) : NB w (W'.setCell ⟨b, 1, none⟩ (.slice a' m' c')) g b K N a' m' c' L' := by
  have hbox : W'.heap[b]? = some (.cells #[.int .i64 N, .slice a m c] 31 (0, 0)) := (hg.block b h.lt (fun e => h.ne b e.symm rfl)).trans h.box
  have h1 := heap_setCell_same W' b 1 _ _ (.slice a' m' c') hbox
  simp only [List.setIfInBounds_toArray, List.set_cons_zero, List.set_cons_succ] at h1
  have hne : ∀ k, Value.ownBlock (.slice a' m' c') = some k → k ≠ b := by
    intro k e
    rcases hk with h2 | h2
    · rw [h2] at e; exact h.ne k e
    · have := h2 k e; have := h.lt; omega
  refine ⟨(h.cur.kept hg (fun k e => by have := (OwnS.lt h.own k e).1; have := h.gb; omega)).set (by have := h.lo; have := h.gb; omega), grown_set (grown_step h.gro hg (fun k e => .inl (OwnS.lt h.own k e).1)) h.lo, h1, OwnS.kept ho (grown_setCell W' b 1 _) ?_, hne, h.lo, h.gb⟩
  cases e : Value.ownBlock (.slice a' m' c') with
  | none => exact .inl rfl
  | some k => exact .inr (fun e2 => hne k e (Option.some.inj e2))
/-- The number of nodes stored. -/
theorem NB.nodes {M : Int} (h : NB w W g b K N a m c L) : NB w (W.setCell ⟨b, 0, none⟩ (.int .i64 M)) g b K M a m c L := by
  have h1 := heap_setCell_same W b 0 _ _ (.int .i64 M) h.box
  simp only [List.setIfInBounds_toArray, List.set_cons_zero] at h1
  refine ⟨h.cur.set (by have := h.lo; have := h.gb; omega), grown_set h.gro h.lo, h1, OwnS.kept h.own (grown_setCell W b 0 _) ?_, h.ne, h.lo, h.gb⟩
  cases e : Value.ownBlock (.slice a m c) with
  | none => exact .inl rfl
  | some k => exact .inr (fun e2 => h.ne k e (Option.some.inj e2))
/-- Another network stored. -/
theorem NB.swap {M : Int} {a' : Option Addr} {m' c' : Nat} {L' : List Pip} (h : NB w W g b K N a m c L) (ho : OwnQ W w.heap.size (.slice a' m' c') L') (hk : ∀ k, Value.ownBlock (.slice a' m' c') = some k → k ≠ b) :
    NB w ((W.setCell ⟨b, 0, none⟩ (.int .i64 M)).setCell ⟨b, 1, none⟩ (.slice a' m' c')) g b K M a' m' c' L' := by
  have h2 := h.nodes (M := M)
  have h1 := heap_setCell_same _ b 1 _ _ (.slice a' m' c') h2.box
  simp only [List.setIfInBounds_toArray, List.set_cons_zero, List.set_cons_succ] at h1
  have hn : Value.ownBlock (.slice a' m' c') = none ∨ Value.ownBlock (.slice a' m' c') ≠ some b := by
    cases e : Value.ownBlock (.slice a' m' c') with
    | none => exact .inl rfl
    | some k => exact .inr (fun e2 => hk k e (Option.some.inj e2))
  exact ⟨h2.cur.set (by have := h.lo; have := h.gb; omega), grown_set h2.gro h.lo, h1, OwnS.kept (OwnS.kept ho (grown_setCell W b 0 _) hn) (grown_setCell _ b 1 _) hn, hk, h.lo, h.gb⟩
end

set_option maxRecDepth 100000 in
set_option maxHeartbeats 8000000 in
theorem c_anyNetwork (g K : Nat) (w : World) (h : Cur w g K) (hK : K ≤ 1000000000) :
    Calls Try.prog 91 #[.pointer (some ⟨g, 0, none⟩)] w fun e w' => (∃ (N : Int) (a : Option Addr) (m c : Nat), e = .returned (.agg #[.int .i64 N, .slice a m c]) ∧ (0 ≤ N ∧ N ≤ 9 ∧ m ≤ 11) ∧ ∃ L : List Pip, OwnQ w' w.heap.size (.slice a m c) L) ∧ Cur w' g (K + 400) ∧ w.grownBy w' (some g) := by
  obtain ⟨i0, hi, hz0, hz1', hz2⟩ := info_parts Try.infoPipe
  have HI := hid hi
  have HZ := hid hz0
  have HZ1 := hid hz1'
  have HZ2 := hid hz2
  clear hi hz0 hz1' hz2
  have H := hid h
  have hgz := h.lt
  clear h
  have B0 := hid (by go_grown : Below w.heap.size w (w.alloc (.cells #[.int .i64 0, .slice none 0 0] 31)))
  have T0 := hid (heap_alloc_new w (.cells #[.int .i64 0, .slice none 0 0] 31))
  have hz0 : w.heap.size < (w.alloc (.cells #[.int .i64 0, .slice none 0 0] 31)).heap.size := by simp
  go_enter Try.func91, Try.ntmps91
  go_upto_region 1 with fail
  generalize w.alloc (.cells #[.int .i64 0, .slice none 0 0] 31) = w0 at *
  go_wp2_with fail
  refine (c_network g K _ (H.out.below B0.out) (by omega)).mono ?_
  rintro e w1 ⟨⟨N, a, m, c, rfl, ⟨hN0, hN1, hm⟩, L, ho⟩, hc1, hg1⟩
  have hz1 := hg1.size
  have HC := hid hc1
  have HG := hid hg1
  have HO := hid ho
  clear hc1 hg1 ho
  go_upto_region 3 with fail
  have S2 := hid (show NB w0 ((w1.alloc (.cells #[.int .i64 N, .slice a m c] 31)).alloc (.cells #[.int .i64 99, .int .i64 1, .int .i64 2, .int .i64 1] 71)) g w1.heap.size (K + 300) N a m c L from
    ⟨HC.out.below (by go_grown), grownBy_trans HG.out (grown_of_below (by go_grown) _), mid_new _ _ _ _ rfl, OwnS.below HO.out (by go_grown), fun k e => by have := (OwnS.lt HO.out k e).2; omega, by omega, by omega⟩)
  have P2 := hid (last_new (w1.alloc (.cells #[.int .i64 N, .slice a m c] 31)) (.cells #[.int .i64 99, .int .i64 1, .int .i64 2, .int .i64 1] 71) (w1.heap.size + 1) (by simp))
  have hzz : w1.heap.size + 1 < ((w1.alloc (.cells #[.int .i64 N, .slice a m c] 31)).alloc (.cells #[.int .i64 99, .int .i64 1, .int .i64 2, .int .i64 1] 71)).heap.size := by simp
  have HRW := hid (show ∀ k, Value.ownBlock (.slice a m c) = some k → k ≠ w1.heap.size + 1 from fun k e => by have := (OwnS.lt HO.out k e).2; omega)
  clear HC HG HO
  obtain ⟨b3, hb3⟩ : ∃ b3, w1.heap.size = b3 := ⟨_, rfl⟩
  rw [hb3] at S2 P2 HRW hzz hz1 ⊢
  obtain ⟨pb, hpb3⟩ : ∃ pb, b3 + 1 = pb := ⟨_, rfl⟩
  rw [hpb3] at P2 HRW hzz ⊢
  have hpb : pb ≠ b3 := by omega
  have hb3g : b3 < pb := by omega
  generalize (w1.alloc (.cells #[.int .i64 N, .slice a m c] 31)).alloc (.cells #[.int .i64 99, .int .i64 1, .int .i64 2, .int .i64 1] 71) = w2 at *
  clear hpb3 hb3
  go_wp2_with fail
  refine (c_pick g _ 24 _ S2.out.cur (by omega) (by omega)).mono ?_
  rintro e w3 ⟨⟨v, rfl, hv0, hv1⟩, hc3, hg3⟩
  have S3 := hid (S2.out.step hc3 hg3)
  have P3 := hid ((hg3.block pb hzz (fun e => by have := Option.some.inj e; omega)).trans P2.out)
  have hpz : pb < w3.heap.size := by have := hg3.size; omega
  have hgb := S3.out.gb
  clear hc3 hg3 S2 P2 hzz
  obtain ⟨m0, m1⟩ := two_of S3.out.box
  have hlt3 := S3.out.lt
  by_cases e0 : v = 0
  · subst e0
    clear hv0 hv1
    go_wp2_with fail
    refine (c_among g _ w3.heap.size 4 4 [0, 9, 8, 1] _ (S3.out.cur.below (by go_grown)) (by omega) (IntsAt.lit' _ 3 [0, 9, 8, 1] rfl rfl) (by have := S3.out.cur.lt; omega) (by omega) (by omega)).mono ?_
    rintro e w4 ⟨⟨u, rfl, hu⟩, hc4, hg4⟩
    have S4 := hid ((S3.out.below (by go_grown)).step hc4 hg4)
    have hu2 : 0 ≤ u ∧ u ≤ 9 := by simp at hu; omega
    clear hc4 hg4 hu m0 m1 hlt3
    obtain ⟨m0, m1⟩ := two_of S4.out.box
    have hlt4 := S4.out.lt
    have f0 := fun j => frozen_of_row w4 b3 j _ _ S4.out.box
    have S5 := hid (S4.out.nodes (M := u))
    go_upto_region 20 with fail
    generalize w4.setCell ⟨b3, 0, none⟩ (.int .i64 u) = w5 at *
    clear m0 m1 f0 hlt4 S4
    have TZ := hid ((S5.out.gro.block w.heap.size hz0 (fun e => by have := Option.some.inj e; omega)).trans T0.out)
    obtain ⟨z0, z1⟩ := two_of TZ.out
    obtain ⟨e0, e1⟩ := two_of S5.out.box
    have hblo := S5.out.lo
    have hblt := S5.out.lt
    have fz := fun j => frozen_of_row w5 w.heap.size j _ _ TZ.out
    have hne : ¬ w.heap.size = b3 := by omega
    have hne2 : ¬ b3 = w.heap.size := by omega
    have hzr : w.heap.size < (w5).heap.size := by omega
    go_wp2
    refine bodyPost_ret (v := .agg #[.int .i64 u, .slice a m c]) (by simp [results, Try.results91, go_sem, *]) rfl ⟨⟨u, a, m, c, rfl, ⟨by omega, by omega, by omega⟩, L, ?_⟩, ?_, ?_⟩
    · exact ((OwnS.far (OwnS.far S5.out.own (by omega)) (by omega))).mono (by omega)
    · exact (((S5.out.cur.le (by omega)).set hgz).set hgz)
    · exact grown_set (grown_set (grownBy_trans (grown_of_below B0.out _) S5.out.gro) (Nat.le_refl _)) (Nat.le_refl _)
  have n0 : (v == 0) = false := by simpa using e0
  clear e0
  by_cases e1 : v = 1
  · subst e1
    clear hv0 hv1
    go_wp2_with fail
    refine (c_among g _ w3.heap.size 3 3 [1, 100, 99] _ (S3.out.cur.below (by go_grown)) (by omega) (IntsAt.lit' _ 3 [1, 100, 99] rfl rfl) (by have := S3.out.cur.lt; omega) (by omega) (by omega)).mono ?_
    rintro e w4 ⟨⟨u, rfl, hu⟩, hc4, hg4⟩
    have S4 := hid ((S3.out.below (by go_grown)).step hc4 hg4)
    have P4 := hid (((hg4.block pb (by simp; omega) (fun e => by have := Option.some.inj e; omega)).trans (Below.heap_alloc _ _ _ hpz)).trans P3.out)
    have hpz4 : pb < w4.heap.size := by have := hg4.size; simp at this; omega
    clear hc4 hg4 hu
    obtain ⟨y0, y1, y2, y3⟩ := four_of P4.out
    have fa := fun j => frozen_of_row w4 pb j _ _ P4.out
    have S5 := hid (S4.out.other (p := pb) (j := 0) (u := .int .i64 u) hpb (by omega) HRW.out)
    have P5 := heap_setCell_same _ _ 0 _ _ (.int .i64 u) P4.out
    simp only [List.setIfInBounds_toArray, List.set_cons_zero, List.set_cons_succ] at P5
    have P5 := hid P5
    have hpz5 : pb < (w4.setCell ⟨pb, 0, none⟩ (.int .i64 u)).heap.size := by simp; omega
    go_upto_region 8 with fail
    generalize w4.setCell ⟨pb, 0, none⟩ (.int .i64 u) = w5 at *
    clear y0 y1 y2 y3 fa S4 P4 m0 m1
    obtain ⟨y0, y1, y2, y3⟩ := four_of P5.out
    obtain ⟨m0, m1⟩ := two_of S5.out.box
    have hbs := S5.out.lt
    have HS1 := hid (SAt.single (e := 71) w5 (u, 1, 2, 1) qf_len)
    go_wp2_with (at_builtin; refine wp_append_s _ rfl _ _ _ rfl 71 i0 (.agg #[.int .i64 0, .int .i64 0, .int .i64 0, .int .i64 0]) 32 Try.underlying29 HI.out HZ.out HZ1.out HZ2.out rfl (by decide) qf_len qf_one w0.heap.size _ L rfl (OwnS.alloc S5.out.own _) _ 1 1 [(u, 1, 2, 1)] rfl HS1.out (m + 1) (by have := OwnS.len S5.out.own; simp; omega) (by omega) (by omega) (by have := S5.out.gro.size; simp; omega) ?_)
    intro a6 c6 w6 hown hgrow hblk
    have hgr2 : w5.grownBy w6 (Value.ownBlock (.slice a m c)) := grownBy_trans (grown_of_below (by go_grown) _) hgrow
    have hbx := (hgr2.block b3 hbs (fun e => S5.out.ne _ e.symm rfl)).trans S5.out.box
    have hz6 := hgr2.size
    obtain ⟨u0, u1⟩ := two_of hbx
    have fu := fun j => frozen_of_row w6 b3 j _ _ hbx
    have hb6 : b3 < w6.heap.size := by omega
    have S7 := hid (S5.out.put hgr2 hown (hblk.imp id (fun e => by rw [e]; simp)))
    clear hown hgrow hblk hgr2 hbx y0 y1 y2 y3 m0 m1
    go_upto_region 20 with fail
    generalize w6.setCell ⟨b3, 1, none⟩ (.slice a6 (m + 1) c6) = w7 at *
    clear u0 u1 fu
    have TZ := hid ((S7.out.gro.block w.heap.size hz0 (fun e => by have := Option.some.inj e; omega)).trans T0.out)
    obtain ⟨z0, z1⟩ := two_of TZ.out
    obtain ⟨e0, e1⟩ := two_of S7.out.box
    have hblo := S7.out.lo
    have hblt := S7.out.lt
    have fz := fun j => frozen_of_row w7 w.heap.size j _ _ TZ.out
    have hne : ¬ w.heap.size = b3 := by omega
    have hne2 : ¬ b3 = w.heap.size := by omega
    have hzr : w.heap.size < (w7).heap.size := by omega
    go_wp2
    refine bodyPost_ret (v := .agg #[.int .i64 N, .slice a6 (m + 1) c6]) (by simp [results, Try.results91, go_sem, *]) rfl ⟨⟨N, a6, (m + 1), c6, rfl, ⟨by omega, by omega, by omega⟩, (L ++ [(u, 1, 2, 1)]), ?_⟩, ?_, ?_⟩
    · exact ((OwnS.far (OwnS.far S7.out.own (by omega)) (by omega))).mono (by omega)
    · exact (((S7.out.cur.le (by omega)).set hgz).set hgz)
    · exact grown_set (grown_set (grownBy_trans (grown_of_below B0.out _) S7.out.gro) (Nat.le_refl _)) (Nat.le_refl _)
  have n1 : (v == 1) = false := by simpa using e1
  clear e1
  by_cases e2 : v = 2
  · subst e2
    clear hv0 hv1
    go_wp2_with fail
    refine (c_among g _ w3.heap.size 2 2 [0, 10] _ (S3.out.cur.below (by go_grown)) (by omega) (IntsAt.lit' _ 3 [0, 10] rfl rfl) (by have := S3.out.cur.lt; omega) (by omega) (by omega)).mono ?_
    rintro e w4 ⟨⟨u, rfl, hu⟩, hc4, hg4⟩
    have S4 := hid ((S3.out.below (by go_grown)).step hc4 hg4)
    have P4 := hid (((hg4.block pb (by simp; omega) (fun e => by have := Option.some.inj e; omega)).trans (Below.heap_alloc _ _ _ hpz)).trans P3.out)
    have hpz4 : pb < w4.heap.size := by have := hg4.size; simp at this; omega
    clear hc4 hg4 hu
    obtain ⟨y0, y1, y2, y3⟩ := four_of P4.out
    have fa := fun j => frozen_of_row w4 pb j _ _ P4.out
    have S5 := hid (S4.out.other (p := pb) (j := 3) (u := .int .i64 u) hpb (by omega) HRW.out)
    have P5 := heap_setCell_same _ _ 3 _ _ (.int .i64 u) P4.out
    simp only [List.setIfInBounds_toArray, List.set_cons_zero, List.set_cons_succ] at P5
    have P5 := hid P5
    have hpz5 : pb < (w4.setCell ⟨pb, 3, none⟩ (.int .i64 u)).heap.size := by simp; omega
    go_upto_region 11 with fail
    generalize w4.setCell ⟨pb, 3, none⟩ (.int .i64 u) = w5 at *
    clear y0 y1 y2 y3 fa S4 P4 m0 m1
    obtain ⟨y0, y1, y2, y3⟩ := four_of P5.out
    obtain ⟨m0, m1⟩ := two_of S5.out.box
    have hbs := S5.out.lt
    have HS1 := hid (SAt.single (e := 71) w5 (99, 1, 2, u) qf_len)
    go_wp2_with (at_builtin; refine wp_append_s _ rfl _ _ _ rfl 71 i0 (.agg #[.int .i64 0, .int .i64 0, .int .i64 0, .int .i64 0]) 32 Try.underlying29 HI.out HZ.out HZ1.out HZ2.out rfl (by decide) qf_len qf_one w0.heap.size _ L rfl (OwnS.alloc S5.out.own _) _ 1 1 [(99, 1, 2, u)] rfl HS1.out (m + 1) (by have := OwnS.len S5.out.own; simp; omega) (by omega) (by omega) (by have := S5.out.gro.size; simp; omega) ?_)
    intro a6 c6 w6 hown hgrow hblk
    have hgr2 : w5.grownBy w6 (Value.ownBlock (.slice a m c)) := grownBy_trans (grown_of_below (by go_grown) _) hgrow
    have hbx := (hgr2.block b3 hbs (fun e => S5.out.ne _ e.symm rfl)).trans S5.out.box
    have hz6 := hgr2.size
    obtain ⟨u0, u1⟩ := two_of hbx
    have fu := fun j => frozen_of_row w6 b3 j _ _ hbx
    have hb6 : b3 < w6.heap.size := by omega
    have S7 := hid (S5.out.put hgr2 hown (hblk.imp id (fun e => by rw [e]; simp)))
    clear hown hgrow hblk hgr2 hbx y0 y1 y2 y3 m0 m1
    go_upto_region 20 with fail
    generalize w6.setCell ⟨b3, 1, none⟩ (.slice a6 (m + 1) c6) = w7 at *
    clear u0 u1 fu
    have TZ := hid ((S7.out.gro.block w.heap.size hz0 (fun e => by have := Option.some.inj e; omega)).trans T0.out)
    obtain ⟨z0, z1⟩ := two_of TZ.out
    obtain ⟨e0, e1⟩ := two_of S7.out.box
    have hblo := S7.out.lo
    have hblt := S7.out.lt
    have fz := fun j => frozen_of_row w7 w.heap.size j _ _ TZ.out
    have hne : ¬ w.heap.size = b3 := by omega
    have hne2 : ¬ b3 = w.heap.size := by omega
    have hzr : w.heap.size < (w7).heap.size := by omega
    go_wp2
    refine bodyPost_ret (v := .agg #[.int .i64 N, .slice a6 (m + 1) c6]) (by simp [results, Try.results91, go_sem, *]) rfl ⟨⟨N, a6, (m + 1), c6, rfl, ⟨by omega, by omega, by omega⟩, (L ++ [(99, 1, 2, u)]), ?_⟩, ?_, ?_⟩
    · exact ((OwnS.far (OwnS.far S7.out.own (by omega)) (by omega))).mono (by omega)
    · exact (((S7.out.cur.le (by omega)).set hgz).set hgz)
    · exact grown_set (grown_set (grownBy_trans (grown_of_below B0.out _) S7.out.gro) (Nat.le_refl _)) (Nat.le_refl _)
  have n2 : (v == 2) = false := by simpa using e2
  clear e2
  by_cases e3 : v = 3
  · subst e3
    clear hv0 hv1
    go_wp2_with fail
    refine (c_among g _ w3.heap.size 3 3 [1, 9, 0] _ (S3.out.cur.below (by go_grown)) (by omega) (IntsAt.lit' _ 3 [1, 9, 0] rfl rfl) (by have := S3.out.cur.lt; omega) (by omega) (by omega)).mono ?_
    rintro e w4 ⟨⟨u, rfl, hu⟩, hc4, hg4⟩
    have S4 := hid ((S3.out.below (by go_grown)).step hc4 hg4)
    have P4 := hid (((hg4.block pb (by simp; omega) (fun e => by have := Option.some.inj e; omega)).trans (Below.heap_alloc _ _ _ hpz)).trans P3.out)
    have hpz4 : pb < w4.heap.size := by have := hg4.size; simp at this; omega
    clear hc4 hg4 hu
    obtain ⟨y0, y1, y2, y3⟩ := four_of P4.out
    have fa := fun j => frozen_of_row w4 pb j _ _ P4.out
    have S5 := hid (S4.out.other (p := pb) (j := 2) (u := .int .i64 u) hpb (by omega) HRW.out)
    have P5 := heap_setCell_same _ _ 2 _ _ (.int .i64 u) P4.out
    simp only [List.setIfInBounds_toArray, List.set_cons_zero, List.set_cons_succ] at P5
    have P5 := hid P5
    have hpz5 : pb < (w4.setCell ⟨pb, 2, none⟩ (.int .i64 u)).heap.size := by simp; omega
    go_upto_region 14 with fail
    generalize w4.setCell ⟨pb, 2, none⟩ (.int .i64 u) = w5 at *
    clear y0 y1 y2 y3 fa S4 P4 m0 m1
    obtain ⟨y0, y1, y2, y3⟩ := four_of P5.out
    obtain ⟨m0, m1⟩ := two_of S5.out.box
    have hbs := S5.out.lt
    have HS1 := hid (SAt.single (e := 71) w5 (99, 1, u, 1) qf_len)
    go_wp2_with (at_builtin; refine wp_append_s _ rfl _ _ _ rfl 71 i0 (.agg #[.int .i64 0, .int .i64 0, .int .i64 0, .int .i64 0]) 32 Try.underlying29 HI.out HZ.out HZ1.out HZ2.out rfl (by decide) qf_len qf_one w0.heap.size _ L rfl (OwnS.alloc S5.out.own _) _ 1 1 [(99, 1, u, 1)] rfl HS1.out (m + 1) (by have := OwnS.len S5.out.own; simp; omega) (by omega) (by omega) (by have := S5.out.gro.size; simp; omega) ?_)
    intro a6 c6 w6 hown hgrow hblk
    have hgr2 : w5.grownBy w6 (Value.ownBlock (.slice a m c)) := grownBy_trans (grown_of_below (by go_grown) _) hgrow
    have hbx := (hgr2.block b3 hbs (fun e => S5.out.ne _ e.symm rfl)).trans S5.out.box
    have hz6 := hgr2.size
    obtain ⟨u0, u1⟩ := two_of hbx
    have fu := fun j => frozen_of_row w6 b3 j _ _ hbx
    have hb6 : b3 < w6.heap.size := by omega
    have S7 := hid (S5.out.put hgr2 hown (hblk.imp id (fun e => by rw [e]; simp)))
    clear hown hgrow hblk hgr2 hbx y0 y1 y2 y3 m0 m1
    go_upto_region 20 with fail
    generalize w6.setCell ⟨b3, 1, none⟩ (.slice a6 (m + 1) c6) = w7 at *
    clear u0 u1 fu
    have TZ := hid ((S7.out.gro.block w.heap.size hz0 (fun e => by have := Option.some.inj e; omega)).trans T0.out)
    obtain ⟨z0, z1⟩ := two_of TZ.out
    obtain ⟨e0, e1⟩ := two_of S7.out.box
    have hblo := S7.out.lo
    have hblt := S7.out.lt
    have fz := fun j => frozen_of_row w7 w.heap.size j _ _ TZ.out
    have hne : ¬ w.heap.size = b3 := by omega
    have hne2 : ¬ b3 = w.heap.size := by omega
    have hzr : w.heap.size < (w7).heap.size := by omega
    go_wp2
    refine bodyPost_ret (v := .agg #[.int .i64 N, .slice a6 (m + 1) c6]) (by simp [results, Try.results91, go_sem, *]) rfl ⟨⟨N, a6, (m + 1), c6, rfl, ⟨by omega, by omega, by omega⟩, (L ++ [(99, 1, u, 1)]), ?_⟩, ?_, ?_⟩
    · exact ((OwnS.far (OwnS.far S7.out.own (by omega)) (by omega))).mono (by omega)
    · exact (((S7.out.cur.le (by omega)).set hgz).set hgz)
    · exact grown_set (grown_set (grownBy_trans (grown_of_below B0.out _) S7.out.gro) (Nat.le_refl _)) (Nat.le_refl _)
  have n3 : (v == 3) = false := by simpa using e3
  clear e3
  by_cases e4 : v = 4
  · subst e4
    clear hv0 hv1 m0 m1 hlt3 P3 HRW hpz
    go_wp2
    go_loopg [5] 12 (fun gm kk wr => ∃ (k : Nat) (a' : Option Addr) (m' c' : Nat) (L' : List Pip), k ≤ 12 ∧ gm = 12 - k ∧ kk = .int .i64 k ∧ m' ≤ 11 ∧ Hid (NB w0 wr g b3 (K + 302 + 2 * k) N a' m' c' L'))
    case atStart => exact ⟨0, a, m, c, L, by omega, rfl, rfl, by omega, hid (S3.out.le (by omega))⟩
    case round =>
      obtain ⟨k, a', m', c', L', hk, rfl, rfl, hm', hh⟩ := hrel
      obtain ⟨m0, m1⟩ := two_of hh.out.box
      have hlt3 := hh.out.lt
      go_upto_region 17 with fail
      refine wp_region_noPanic ?_
      refine wp_region_held_drew (S := (fun w' => w'.cell? ⟨b3, 1, none⟩ = some (.slice a' m' c'))) (by kernel_rfl) (by exact m1) (fun hHeld => ?_)
      refine wpAnyH_take' (i := 0) (v := ?_) rfl (by kernel_rfl) (by kernel_rfl) (by kernel_rfl) (fun _ _ _ h => h) (Or.inl ⟨by rfl, ?_⟩) (by assumption) ?_
      rotate_left
      · (intro w' hSw; (try dsimp only at hSw); go_simp; all_goals with_reducible rfl)
      try simp only [Act.put, List.setIfInBounds_toArray, List.set_cons_zero, List.set_cons_succ]
      refine wpAnyH_take' (i := 1) (v := ?_) rfl (by kernel_rfl) (by kernel_rfl) (by kernel_rfl) (fun _ _ _ h => h) (Or.inl ⟨by rfl, ?_⟩) (by assumption) ?_
      rotate_left
      · (intro w' hSw; (try dsimp only at hSw); go_simp; all_goals with_reducible rfl)
      try simp only [Act.put, List.setIfInBounds_toArray, List.set_cons_zero, List.set_cons_succ]
      refine wpAnyH_take' (i := 2) (v := ?_) rfl (by kernel_rfl) (by kernel_rfl) (by kernel_rfl) (fun _ _ _ h => h) (Or.inl ⟨by rfl, ?_⟩) (by assumption) ?_
      rotate_left
      · (intro w' hSw; (try dsimp only at hSw); go_simp; all_goals with_reducible rfl)
      try simp only [Act.put, List.setIfInBounds_toArray, List.set_cons_zero, List.set_cons_succ]
      refine wpAnyH_take' (i := 3) (v := ?_) rfl (by kernel_rfl) (by kernel_rfl) (by kernel_rfl) (fun _ _ _ h => h) (Or.inl ⟨by rfl, ?_⟩) (by assumption) ?_
      rotate_left
      · (intro w' hSw; (try dsimp only at hSw); go_simp; all_goals with_reducible rfl)
      try simp only [Act.put, List.setIfInBounds_toArray, List.set_cons_zero, List.set_cons_succ]
      refine wpAnyH_ready (rs := [4]) (by kernel_rfl) (by simp) ?_
      refine allReadyH_cons' rfl (fun Kn hKn => ?_) AllReadyH.nil
      go_simp
      go_at_call 89
      refine (c_pick g _ 2 _ (hh.out.below (by go_grown)).cur (by omega) (by omega)).mono ?_
      rintro e w4 ⟨⟨v, rfl, hv0, hv1⟩, hc4, hg4⟩
      have S4 := hid ((hh.out.below (by go_grown)).step hc4 hg4)
      clear hc4 hg4 m0 m1 hlt3
      obtain ⟨m0, m1⟩ := two_of S4.out.box
      have hlt4 := S4.out.lt
      have hwv : IntKind.i64.wrap (10 + v) = 10 + v := IntWalk.i64_in _ (by omega)
      refine hKn.out _ _ m1 (fun hHeldN => ?_)
      clear hKn Kn hHeld
      have hHeld := hHeldN
      clear hHeldN
      try simp only [Act.put, List.setIfInBounds_toArray, List.set_cons_zero, List.set_cons_succ]
      by_cases hcmp : (m' : Int) < 10 + v
      · by_cases hk12 : k < 12
        · have hk12i : (k : Int) < 12 := by omega
          refine wpAnyH_take' (i := 5) (v := ?_) rfl (by kernel_rfl) (by kernel_rfl) (by kernel_rfl) (fun _ _ _ h => h) (Or.inl ⟨by rfl, ?_⟩) (by assumption) ?_
          rotate_left
          · (intro w' hSw; (try dsimp only at hSw); go_simp; all_goals with_reducible rfl)
          try simp only [Act.put, List.setIfInBounds_toArray, List.set_cons_zero, List.set_cons_succ]
          refine wpAnyH_take' (i := 6) (v := ?_) rfl (by kernel_rfl) (by kernel_rfl) (by kernel_rfl) (fun _ _ _ h => h) (Or.inl ⟨by rfl, ?_⟩) (by assumption) ?_
          rotate_left
          · (intro w' hSw; (try dsimp only at hSw); go_simp; all_goals with_reducible rfl)
          try simp only [Act.put, List.setIfInBounds_toArray, List.set_cons_zero, List.set_cons_succ]
          refine wpAnyH_take' (i := 7) (v := ?_) rfl (by kernel_rfl) (by kernel_rfl) (by kernel_rfl) (fun _ _ _ h => h) (Or.inl ⟨by rfl, ?_⟩) (by assumption) ?_
          rotate_left
          · (intro w' hSw; (try dsimp only at hSw); go_simp; all_goals with_reducible rfl)
          try simp only [Act.put, List.setIfInBounds_toArray, List.set_cons_zero, List.set_cons_succ]
          refine wpAnyH_take' (i := 8) (v := ?_) rfl (by kernel_rfl) (by kernel_rfl) (by kernel_rfl) (fun _ _ _ h => h) (Or.inl ⟨by rfl, ?_⟩) (by assumption) ?_
          rotate_left
          · (intro w' hSw; (try dsimp only at hSw); go_simp; all_goals with_reducible rfl)
          try simp only [Act.put, List.setIfInBounds_toArray, List.set_cons_zero, List.set_cons_succ]
          refine wpAnyH_take' (i := 9) (v := ?_) rfl (by kernel_rfl) (by kernel_rfl) (by kernel_rfl) (fun _ _ _ h => h) (Or.inl ⟨by rfl, ?_⟩) (by assumption) ?_
          rotate_left
          · (intro w' hSw; (try dsimp only at hSw); go_simp; all_goals with_reducible rfl)
          try simp only [Act.put, List.setIfInBounds_toArray, List.set_cons_zero, List.set_cons_succ]
          refine wpAnyH_take' (i := 10) (v := ?_) rfl (by kernel_rfl) (by kernel_rfl) (by kernel_rfl) (fun _ _ _ h => h) (Or.inl ⟨by rfl, ?_⟩) (by assumption) ?_
          rotate_left
          · (intro w' hSw; (try dsimp only at hSw); go_simp; all_goals with_reducible rfl)
          try simp only [Act.put, List.setIfInBounds_toArray, List.set_cons_zero, List.set_cons_succ]
          refine wpAnyH_done (by kernel_rfl) ?_ _
          refine NoPanic.normal ?_
          clear hHeld
          have hw6 : IntKind.i64.wrap (60 + (k : Int)) = 60 + (k : Int) := IntWalk.i64_in _ (by omega)
          have hwk : IntKind.i64.wrap ((k : Int) + 1) = (k : Int) + 1 := IntWalk.i64_in _ (by omega)
          clear hwv hh
          go_upto_region 19 with fail
          refine wp_region_noPanic ?_
          refine wp_region_to (fun w' => w'.cell? ⟨b3, 0, none⟩ = some (.int .i64 N) ∧ w'.cell? ⟨b3, 1, none⟩ = some (.slice a' m' c')) 11 (by kernel_rfl) (by exact ⟨m0, m1⟩) (fun hHeld => ?_)
          refine AnyTo.take (i := 0) (v := ?_) rfl (by kernel_rfl) (by kernel_rfl) (by kernel_rfl) (by kernel_rfl) (fun _ _ _ h => h) (Or.inl ⟨by rfl, ?_⟩) (by assumption) ?_
          rotate_left
          · (intro w' hSw; (try dsimp only at hSw); go_simp; all_goals with_reducible rfl)
          try simp only [Act.put, List.setIfInBounds_toArray, List.set_cons_zero, List.set_cons_succ]
          refine AnyTo.take (i := 1) (v := ?_) rfl (by kernel_rfl) (by kernel_rfl) (by kernel_rfl) (by kernel_rfl) (fun _ _ _ h => h) (Or.inl ⟨by rfl, ?_⟩) (by assumption) ?_
          rotate_left
          · (intro w' hSw; (try dsimp only at hSw); go_simp; all_goals with_reducible rfl)
          try simp only [Act.put, List.setIfInBounds_toArray, List.set_cons_zero, List.set_cons_succ]
          refine AnyTo.take (i := 2) (v := ?_) rfl (by kernel_rfl) (by kernel_rfl) (by kernel_rfl) (by kernel_rfl) (fun _ _ _ h => h) (Or.inl ⟨by rfl, ?_⟩) (by assumption) ?_
          rotate_left
          · (intro w' hSw; (try dsimp only at hSw); go_simp; all_goals with_reducible rfl)
          try simp only [Act.put, List.setIfInBounds_toArray, List.set_cons_zero, List.set_cons_succ]
          refine AnyTo.take (i := 3) (v := ?_) rfl (by kernel_rfl) (by kernel_rfl) (by kernel_rfl) (by kernel_rfl) (fun _ _ _ h => h) (Or.inl ⟨by rfl, ?_⟩) (by assumption) ?_
          rotate_left
          · (intro w' hSw; (try dsimp only at hSw); go_simp; all_goals with_reducible rfl)
          try simp only [Act.put, List.setIfInBounds_toArray, List.set_cons_zero, List.set_cons_succ]
          refine AnyTo.take (i := 4) (v := ?_) rfl (by kernel_rfl) (by kernel_rfl) (by kernel_rfl) (by kernel_rfl) (fun _ _ _ h => h) (Or.inl ⟨by rfl, ?_⟩) (by assumption) ?_
          rotate_left
          · (intro w' hSw; (try dsimp only at hSw); go_simp; all_goals with_reducible rfl)
          try simp only [Act.put, List.setIfInBounds_toArray, List.set_cons_zero, List.set_cons_succ]
          refine AnyTo.take (i := 5) (v := ?_) rfl (by kernel_rfl) (by kernel_rfl) (by kernel_rfl) (by kernel_rfl) (fun _ _ _ h => h) (Or.inl ⟨by rfl, ?_⟩) (by assumption) ?_
          rotate_left
          · (intro w' hSw; (try dsimp only at hSw); go_simp; all_goals with_reducible rfl)
          try simp only [Act.put, List.setIfInBounds_toArray, List.set_cons_zero, List.set_cons_succ]
          refine AnyTo.one (i := 6) rfl (by kernel_rfl) (fun Kn hKn => ?_)
          go_simp
          go_at_call 103
          refine (s_l1Most _ _ _).mono ?_
          rintro e _ ⟨rfl, rfl⟩
          clear hHeld
          refine hKn.out _ _ ⟨m0, m1⟩ (fun hHeld => ?_)
          clear hKn Kn
          try simp only [Act.put, List.setIfInBounds_toArray, List.set_cons_zero, List.set_cons_succ]
          refine AnyTo.take (i := 7) (v := ?_) rfl (by kernel_rfl) (by kernel_rfl) (by kernel_rfl) (by kernel_rfl) (fun _ _ _ h => h) (Or.inl ⟨by rfl, ?_⟩) (by assumption) ?_
          rotate_left
          · (intro w' hSw; (try dsimp only at hSw); go_simp; all_goals with_reducible rfl)
          try simp only [Act.put, List.setIfInBounds_toArray, List.set_cons_zero, List.set_cons_succ]
          refine AnyTo.one (i := 8) rfl (by kernel_rfl) (fun Kn hKn => ?_)
          go_simp
          have BW := hid (by go_grown : Below w4.heap.size w4 (w4.alloc (.cells #[.int .i64 (60 + (k : Int)), .int .i64 1, .int .i64 (max 2 N), .int .i64 2] 71)).drew)
          have HS1 := hid (SAt.below (SAt.single (e := 71) w4 ((60 + (k : Int)), 1, max 2 N, 2) qf_len) ((Below.refl _ _).drew))
          have HO1 := hid (OwnS.below S4.out.own BW.out)
          have hsz5 := BW.out.size
          clear hHeld
          refine hKn.out _ _ (two_of ((S4.out.below BW.out).box)) (fun hHeld => ?_)
          clear hKn Kn
          try simp only [Act.put, List.setIfInBounds_toArray, List.set_cons_zero, List.set_cons_succ]
          refine AnyTo.one (i := 9) rfl (by kernel_rfl) (fun Kn hKn => ?_)
          refine step_append_q (by rfl) _ _ (by rfl) w0.heap.size _ L' (by rfl) HO1.out _ 1 _ [((60 + (k : Int)), 1, max 2 N, 2)] (by rfl) HS1.out (m' + 1) (by have := OwnS.len S4.out.own; simp; omega) (by omega) (by have := S4.out.gro.size; omega) ?_
          intro a6 c6 w6 hown hgrow hblk
          have hgr2 : w4.grownBy w6 (Value.ownBlock (.slice a' m' c')) := grownBy_trans (grown_of_below BW.out _) hgrow
          have hbx := (hgr2.block b3 hlt4 (fun e => S4.out.ne _ e.symm rfl)).trans S4.out.box
          have hz6 := hgr2.size
          obtain ⟨u0, u1⟩ := two_of hbx
          have fu := fun j => frozen_of_row w6 b3 j _ _ hbx
          have hb6 : b3 < w6.heap.size := by omega
          have S7 := hid (S4.out.put hgr2 hown (hblk.imp id (fun e k h => by rw [e] at h; have := Option.some.inj h; omega)))
          clear hown hgrow hblk hgr2 hbx hHeld HS1 HO1 BW hsz5 S4
          refine hKn.out _ _ ⟨u0, u1⟩ (fun hHeld => ?_)
          clear hKn Kn
          try simp only [Act.put, List.setIfInBounds_toArray, List.set_cons_zero, List.set_cons_succ]
          refine AnyTo.take (i := 10) (v := ?_) rfl (by kernel_rfl) (by kernel_rfl) (by kernel_rfl) (by kernel_rfl) (fun _ _ _ h => h) (Or.inl ⟨by rfl, ?_⟩) (by assumption) ?_
          rotate_left
          · (intro w' hSw; (try dsimp only at hSw); go_simp; all_goals with_reducible rfl)
          try simp only [Act.put, List.setIfInBounds_toArray, List.set_cons_zero, List.set_cons_succ]
          refine AnyTo.last rfl (by kernel_rfl) (by kernel_rfl) (fun Kn hKn => ?_)
          go_simp
          refine hKn.out _ _ ?_
          clear hKn Kn
          try simp only [Act.put, List.setIfInBounds_toArray, List.set_cons_zero, List.set_cons_succ]
          refine NoPanic.normal ?_
          clear hHeld m0 m1 u0 u1 fu
          go_wp2
          go_roundg (12 - (k + 1))
          case rel => exact ⟨k + 1, _, _, _, _, by omega, rfl, by first | rfl | go_num, by omega, hid (S7.out.le (by omega))⟩
          case measure => omega
        · have hk12i : ¬ (k : Int) < 12 := by omega
          refine wpAnyH_take' (i := 5) (v := ?_) rfl (by kernel_rfl) (by kernel_rfl) (by kernel_rfl) (fun _ _ _ h => h) (Or.inl ⟨by rfl, ?_⟩) (by assumption) ?_
          rotate_left
          · (intro w' hSw; (try dsimp only at hSw); go_simp; all_goals with_reducible rfl)
          try simp only [Act.put, List.setIfInBounds_toArray, List.set_cons_zero, List.set_cons_succ]
          refine wpAnyH_take' (i := 6) (v := ?_) rfl (by kernel_rfl) (by kernel_rfl) (by kernel_rfl) (fun _ _ _ h => h) (Or.inl ⟨by rfl, ?_⟩) (by assumption) ?_
          rotate_left
          · (intro w' hSw; (try dsimp only at hSw); go_simp; all_goals with_reducible rfl)
          try simp only [Act.put, List.setIfInBounds_toArray, List.set_cons_zero, List.set_cons_succ]
          refine wpAnyH_take' (i := 7) (v := ?_) rfl (by kernel_rfl) (by kernel_rfl) (by kernel_rfl) (fun _ _ _ h => h) (Or.inl ⟨by rfl, ?_⟩) (by assumption) ?_
          rotate_left
          · (intro w' hSw; (try dsimp only at hSw); go_simp; all_goals with_reducible rfl)
          try simp only [Act.put, List.setIfInBounds_toArray, List.set_cons_zero, List.set_cons_succ]
          refine wpAnyH_take' (i := 8) (v := ?_) rfl (by kernel_rfl) (by kernel_rfl) (by kernel_rfl) (fun _ _ _ h => h) (Or.inl ⟨by rfl, ?_⟩) (by assumption) ?_
          rotate_left
          · (intro w' hSw; (try dsimp only at hSw); go_simp; all_goals with_reducible rfl)
          try simp only [Act.put, List.setIfInBounds_toArray, List.set_cons_zero, List.set_cons_succ]
          refine wpAnyH_take' (i := 9) (v := ?_) rfl (by kernel_rfl) (by kernel_rfl) (by kernel_rfl) (fun _ _ _ h => h) (Or.inl ⟨by rfl, ?_⟩) (by assumption) ?_
          rotate_left
          · (intro w' hSw; (try dsimp only at hSw); go_simp; all_goals with_reducible rfl)
          try simp only [Act.put, List.setIfInBounds_toArray, List.set_cons_zero, List.set_cons_succ]
          refine wpAnyH_take' (i := 10) (v := ?_) rfl (by kernel_rfl) (by kernel_rfl) (by kernel_rfl) (fun _ _ _ h => h) (Or.inl ⟨by rfl, ?_⟩) (by assumption) ?_
          rotate_left
          · (intro w' hSw; (try dsimp only at hSw); go_simp; all_goals with_reducible rfl)
          try simp only [Act.put, List.setIfInBounds_toArray, List.set_cons_zero, List.set_cons_succ]
          refine wpAnyH_done (by kernel_rfl) ?_ _
          refine NoPanic.normal ?_
          clear hHeld
          clear m0 m1
          have TZ := hid ((S4.out.gro.block w.heap.size hz0 (fun e => by have := Option.some.inj e; omega)).trans T0.out)
          obtain ⟨z0, z1⟩ := two_of TZ.out
          obtain ⟨e0, e1⟩ := two_of S4.out.box
          have hblo := S4.out.lo
          have hblt := S4.out.lt
          have fz := fun j => frozen_of_row w4 w.heap.size j _ _ TZ.out
          have hne : ¬ w.heap.size = b3 := by omega
          have hne2 : ¬ b3 = w.heap.size := by omega
          have hzr : w.heap.size < (w4).heap.size := by omega
          go_wp2
          refine bodyPost_ret (v := .agg #[.int .i64 N, .slice a' m' c']) (by simp [results, Try.results91, go_sem, *]) rfl ⟨⟨N, a', m', c', rfl, ⟨by omega, by omega, by omega⟩, L', ?_⟩, ?_, ?_⟩
          · exact ((OwnS.far (OwnS.far S4.out.own (by omega)) (by omega))).mono (by omega)
          · exact (((S4.out.cur.le (by omega)).set hgz).set hgz)
          · exact grown_set (grown_set (grownBy_trans (grown_of_below B0.out _) S4.out.gro) (Nat.le_refl _)) (Nat.le_refl _)
      · have hd7 : decide ((m' : Int) < 10 + v) = false := by simpa using hcmp
        refine wpAnyH_take' (i := 5) (v := ?_) rfl (by kernel_rfl) (by kernel_rfl) (by kernel_rfl) (fun _ _ _ h => h) (Or.inl ⟨by rfl, ?_⟩) (by assumption) ?_
        rotate_left
        · (intro w' hSw; (try dsimp only at hSw); go_simp; all_goals with_reducible rfl)
        try simp only [Act.put, List.setIfInBounds_toArray, List.set_cons_zero, List.set_cons_succ]
        refine wpAnyH_take' (i := 6) (v := ?_) rfl (by kernel_rfl) (by kernel_rfl) (by kernel_rfl) (fun _ _ _ h => h) (Or.inl ⟨by rfl, ?_⟩) (by assumption) ?_
        rotate_left
        · (intro w' hSw; (try dsimp only at hSw); go_simp; all_goals with_reducible rfl)
        try simp only [Act.put, List.setIfInBounds_toArray, List.set_cons_zero, List.set_cons_succ]
        refine wpAnyH_take' (i := 7) (v := ?_) rfl (by kernel_rfl) (by kernel_rfl) (by kernel_rfl) (fun _ _ _ h => h) (Or.inl ⟨by rfl, ?_⟩) (by assumption) ?_
        rotate_left
        · (intro w' hSw; (try dsimp only at hSw); go_simp; all_goals with_reducible rfl)
        try simp only [Act.put, List.setIfInBounds_toArray, List.set_cons_zero, List.set_cons_succ]
        refine wpAnyH_take' (i := 8) (v := undef) rfl (by kernel_rfl) (by kernel_rfl) (by kernel_rfl) (fun _ _ _ h => h) (Or.inr ⟨by rfl, rfl⟩) (by assumption) ?_
        try simp only [Act.put, List.setIfInBounds_toArray, List.set_cons_zero, List.set_cons_succ]
        refine wpAnyH_take' (i := 9) (v := undef) rfl (by kernel_rfl) (by kernel_rfl) (by kernel_rfl) (fun _ _ _ h => h) (Or.inr ⟨by rfl, rfl⟩) (by assumption) ?_
        try simp only [Act.put, List.setIfInBounds_toArray, List.set_cons_zero, List.set_cons_succ]
        refine wpAnyH_take' (i := 10) (v := ?_) rfl (by kernel_rfl) (by kernel_rfl) (by kernel_rfl) (fun _ _ _ h => h) (Or.inl ⟨by rfl, ?_⟩) (by assumption) ?_
        rotate_left
        · (intro w' hSw; (try dsimp only at hSw); go_simp; all_goals with_reducible rfl)
        try simp only [Act.put, List.setIfInBounds_toArray, List.set_cons_zero, List.set_cons_succ]
        refine wpAnyH_done (by kernel_rfl) ?_ _
        refine NoPanic.normal ?_
        clear hHeld
        clear m0 m1
        have TZ := hid ((S4.out.gro.block w.heap.size hz0 (fun e => by have := Option.some.inj e; omega)).trans T0.out)
        obtain ⟨z0, z1⟩ := two_of TZ.out
        obtain ⟨e0, e1⟩ := two_of S4.out.box
        have hblo := S4.out.lo
        have hblt := S4.out.lt
        have fz := fun j => frozen_of_row w4 w.heap.size j _ _ TZ.out
        have hne : ¬ w.heap.size = b3 := by omega
        have hne2 : ¬ b3 = w.heap.size := by omega
        have hzr : w.heap.size < (w4).heap.size := by omega
        go_wp2
        refine bodyPost_ret (v := .agg #[.int .i64 N, .slice a' m' c']) (by simp [results, Try.results91, go_sem, *]) rfl ⟨⟨N, a', m', c', rfl, ⟨by omega, by omega, by omega⟩, L', ?_⟩, ?_, ?_⟩
        · exact ((OwnS.far (OwnS.far S4.out.own (by omega)) (by omega))).mono (by omega)
        · exact (((S4.out.cur.le (by omega)).set hgz).set hgz)
        · exact grown_set (grown_set (grownBy_trans (grown_of_below B0.out _) S4.out.gro) (Nat.le_refl _)) (Nat.le_refl _)
  have n4 : (v == 4) = false := by simpa using e4
  clear e4 m0 m1
  have TZ := hid ((S3.out.gro.block w.heap.size hz0 (fun e => by have := Option.some.inj e; omega)).trans T0.out)
  obtain ⟨z0, z1⟩ := two_of TZ.out
  obtain ⟨e0, e1⟩ := two_of S3.out.box
  have hblo := S3.out.lo
  have hblt := S3.out.lt
  have fz := fun j => frozen_of_row w3 w.heap.size j _ _ TZ.out
  have hne : ¬ w.heap.size = b3 := by omega
  have hne2 : ¬ b3 = w.heap.size := by omega
  have hzr : w.heap.size < (w3).heap.size := by omega
  go_wp2
  refine bodyPost_ret (v := .agg #[.int .i64 N, .slice a m c]) (by simp [results, Try.results91, go_sem, *]) rfl ⟨⟨N, a, m, c, rfl, ⟨by omega, by omega, by omega⟩, L, ?_⟩, ?_, ?_⟩
  · exact ((OwnS.far (OwnS.far S3.out.own (by omega)) (by omega))).mono (by omega)
  · exact (((S3.out.cur.le (by omega)).set hgz).set hgz)
  · exact grown_set (grown_set (grownBy_trans (grown_of_below B0.out _) S3.out.gro) (Nat.le_refl _)) (Nat.le_refl _)

end Go.Proofs.Ytikjighlnpdgiaa

/-
  Spanning trees: the reference's walk, and what both hold while they walk.
-/
set_option linter.unusedVariables false
set_option linter.unusedSimpArgs false
namespace Go.Proofs.Ytikjighlnpdgiaa
open Go.RowKit

theorem heap_alloc_old {W : World} {x y : Obj} {g : Nat} (h : W.heap[g]? = some y) : (W.alloc x).heap[g]? = some y := (Below.heap_alloc _ _ _ (Array.getElem?_eq_some_iff.1 h).1).trans h

structure SpIn (w : World) (M : Nat) (a : Option Addr) (n c : Nat) (l : List Pip) (B0 R Bs X k : Nat) (a' : Option Addr) (m c' : Nat) (wr : World) : Prop where
  arg : wr.heap[B0]? = some (.cells #[.int .i64 M, .slice a n c] 31 (0, 0))
  res : wr.heap[R]? = some (.cells #[.int .i64 0, .slice none 0 0] 31 (0, 0))
  box : wr.heap[X]? = some (.cells #[.int .i64 M, .slice a' m c'] 31 (0, 0))
  own : OwnQ wr Bs (.slice a' m c') (span l k)
  ne : Value.ownBlock (.slice a' m c') ≠ some X
  bel : Below w.heap.size w wr
  lo : w.heap.size ≤ B0 ∧ B0 < Bs ∧ w.heap.size ≤ R ∧ R < Bs ∧ Bs ≤ X
section
variable {w : World} {M : Nat} {a : Option Addr} {n c : Nat} {l : List Pip} {B0 R Bs X k : Nat} {a' : Option Addr} {m c' : Nat} {wr wx : World}
theorem SpIn.lt (h : SpIn w M a n c l B0 R Bs X k a' m c' wr) : B0 < wr.heap.size ∧ R < wr.heap.size ∧ X < wr.heap.size :=
  ⟨(Array.getElem?_eq_some_iff.1 h.arg).1, (Array.getElem?_eq_some_iff.1 h.res).1, (Array.getElem?_eq_some_iff.1 h.box).1⟩
theorem SpIn.below (h : SpIn w M a n c l B0 R Bs X k a' m c' wr) (hb : Below wr.heap.size wr wx) : SpIn w M a n c l B0 R Bs X k a' m c' wx :=
  ⟨(hb.block _ h.lt.1).trans h.arg, (hb.block _ h.lt.2.1).trans h.res, (hb.block _ h.lt.2.2).trans h.box, OwnS.below h.own hb, h.ne, bstep h.bel hb, h.lo⟩
theorem SpIn.skip (h : SpIn w M a n c l B0 R Bs X k a' m c' wr) (hs : span l (k + 1) = span l k) : SpIn w M a n c l B0 R Bs X (k + 1) a' m c' wr :=
  ⟨h.arg, h.res, h.box, by rw [hs]; exact h.own, h.ne, h.bel, h.lo⟩
theorem SpIn.put (h : SpIn w M a n c l B0 R Bs X k a' m c' wr) (hb : Below wr.heap.size wr wx) {w2 : World} (hg : wx.grownBy w2 (Value.ownBlock (.slice a' m c'))) {a2 : Option Addr} {c2 : Nat} (ho : OwnQ w2 Bs (.slice a2 (m + 1) c2) (span l k ++ [pp l k])) (hblk : Value.ownBlock (.slice a2 (m + 1) c2) = Value.ownBlock (.slice a' m c') ∨ Value.ownBlock (.slice a2 (m + 1) c2) = some wx.heap.size) (hs : span l (k + 1) = span l k ++ [pp l k]) :
    SpIn w M a n c l B0 R Bs X (k + 1) a2 (m + 1) c2 (w2.setCell ⟨X, 1, none⟩ (.slice a2 (m + 1) c2)) := by
  have hx := h.below hb
  have hlt := hx.lt
  obtain ⟨l1, l2, l3, l4, l5⟩ := h.lo
  have hown := fun q hq => (OwnS.lt hx.own q hq).1
  have hbx := (hg.block X hlt.2.2 (fun e => hx.ne e.symm)).trans hx.box
  refine ⟨other_cell ((hg.block B0 hlt.1 (fun e => by have := hown _ e.symm; omega)).trans hx.arg) (by omega), other_cell ((hg.block R hlt.2.1 (fun e => by have := hown _ e.symm; omega)).trans hx.res) (by omega), ?_, ?_, ?_, ?_, h.lo⟩
  · have := heap_setCell_same w2 X 1 _ _ (.slice a2 (m + 1) c2) hbx
    simpa using this
  · rw [hs]
    refine OwnS.kept ho (grown_setCell w2 X 1 _) (.inr ?_)
    rcases hblk with e | e
    · rw [e]; exact h.ne
    · rw [e]; intro e2; have := Option.some.inj e2; omega
  · rcases hblk with e | e
    · rw [e]; exact h.ne
    · rw [e]; intro e2; have := Option.some.inj e2; omega
  · exact (hx.bel.grown hg hx.bel.size (fun q hq => by have := hown _ hq; omega)).setCell (by show w.heap.size ≤ X; omega) _
theorem SpIn.start (hA : wr.heap[B0]? = some (.cells #[.int .i64 M, .slice a n c] 31 (0, 0))) (hR : wr.heap[R]? = some (.cells #[.int .i64 0, .slice none 0 0] 31 (0, 0))) (hX : wr.heap[X]? = some (.cells #[.int .i64 M, .slice (some ⟨Bs, 0, none⟩) 0 0] 31 (0, 0))) (ho : OwnQ wr Bs (.slice (some ⟨Bs, 0, none⟩) 0 0) []) (hb : Below w.heap.size w wr) (hlo : w.heap.size ≤ B0 ∧ B0 < Bs ∧ w.heap.size ≤ R ∧ R < Bs ∧ Bs < X) :
    SpIn w M a n c l B0 R Bs X 0 (some ⟨Bs, 0, none⟩) 0 0 wr :=
  ⟨hA, hR, hX, ho, by simp [Value.ownBlock]; omega, hb, ⟨hlo.1, hlo.2.1, hlo.2.2.1, hlo.2.2.2.1, Nat.le_of_lt hlo.2.2.2.2⟩⟩
end
theorem span_to {M : Nat} {l : List Pip} {k : Nat} (hg : goodNet M l = true) (hk : k < l.length) (h : 0 ≤ far (span l k) 0 (pp l k).2.1 (pp l k).2.2.1) : decide ((pp l k).2.2.1 ∈ reachL M (span l k) 0 (pp l k).2.1) = true := by
  have := goodNet_pipe hg hk
  simp only [decide_eq_true_eq]
  exact (to_reached this.2.2.1).2 h
theorem span_nto {M : Nat} {l : List Pip} {k : Nat} (hg : goodNet M l = true) (hk : k < l.length) (h : ¬ 0 ≤ far (span l k) 0 (pp l k).2.1 (pp l k).2.2.1) : decide ((pp l k).2.2.1 ∈ reachL M (span l k) 0 (pp l k).2.1) = false := by
  have := goodNet_pipe hg hk
  simp only [decide_eq_false_iff_not]
  exact fun h2 => h ((to_reached this.2.2.1).1 h2)

set_option maxRecDepth 100000 in
set_option maxHeartbeats 4000000 in
theorem s_l8Spanning (M : Nat) (a : Option Addr) (n c : Nat) (l : List Pip) (w : World) (h : QAt w a n l) (hg : goodNet M l = true) :
    Calls Try.prog 92 #[.agg #[.int .i64 M, .slice a n c]] w fun e w' => ∃ a' m c', e = .returned (.agg #[.int .i64 M, .slice a' m c']) ∧ OwnQ w' w.heap.size (.slice a' m c') (span l n) ∧ Below w.heap.size w w' := by
  have hM : M ≤ 8 := by have := (goodNet_get hg).1; omega
  have hn : n ≤ 10 := by have := (goodNet_get hg).2.1; have := h.1; omega
  have HLN := hid h.1
  have H := hid h
  have HG := hid hg
  clear h hg
  go_enter Try.func92, Try.ntmps92
  go_wp2
  go_loopg [4] n (fun g i wr => ∃ (k : Nat) (a' : Option Addr) (m c' : Nat), k ≤ n ∧ g = n - k ∧ i = .int .i64 k ∧ Hid (SpIn w M a n c l w.heap.size (w.heap.size + 1) (w.heap.size + 2) (w.heap.size + 3) k a' m c' wr))
  case atStart =>
    refine ⟨0, _, 0, 0, Nat.zero_le _, rfl, rfl, hid (SpIn.start ?_ ?_ ?_ ?_ ?_ ⟨by omega, by omega, by omega, by omega, by omega⟩)⟩
    · exact heap_alloc_old (heap_alloc_old (heap_alloc_old (last_new _ _ _ rfl)))
    · exact heap_alloc_old (heap_alloc_old (last_new _ _ _ (by simp)))
    · exact last_new _ _ _ (by simp)
    · exact OwnS.alloc (OwnS.lit0' (by simp)) _
    · go_grown
  case round =>
    obtain ⟨k, a', m, c', hk, rfl, rfl, hh⟩ := hrel
    have hlt0 := hh.out.lt
    by_cases hlt : k < n
    · obtain ⟨b0, off0, rfl, hbw, x0, x1, x2, x3⟩ := QAt.get (H.out.below hh.out.bel) k hlt
      have hkl : k < l.length := by have := HLN.out; omega
      have m1 : wr.cell? ⟨w.heap.size, 1, none⟩ = some (.slice (some ⟨b0, off0, none⟩) n c) := by rw [cell_of_row wr _ _ _ _ (0, 0) hh.out.arg]; rfl
      have o0 : wr.cell? ⟨w.heap.size + 3, 0, none⟩ = some (.int .i64 M) := by rw [cell_of_row wr _ _ _ _ (0, 0) hh.out.box]; rfl
      have o1 : wr.cell? ⟨w.heap.size + 3, 1, none⟩ = some (.slice a' m c') := by rw [cell_of_row wr _ _ _ _ (0, 0) hh.out.box]; rfl
      have HP := hid (goodNet_pipe HG.out hkl)
      have HGS := hid (span_good HG.out (k := k) (by omega))
      have hm : m ≤ 10 := by
        have h1 := span_len l (k := k) (by omega)
        have h2 := OwnS.len hh.out.own
        omega
      by_cases hp : 0 ≤ far (span l k) 0 (pp l k).2.1 (pp l k).2.2.1
      · have E := hid (span_yes hp)
        have FT := hid (span_to HG.out hkl hp)
        clear hp hkl
        go_upto_region 5 with fail
        have q0 : ∀ wy w5 : World, Below wy.heap.size wy w5 → (wy.cell? ⟨w.heap.size, 1, none⟩ = some (.slice (some ⟨b0, off0, none⟩) n c) ∧ wy.cell? ⟨w.heap.size + 3, 0, none⟩ = some (.int .i64 M) ∧ wy.cell? ⟨w.heap.size + 3, 1, none⟩ = some (.slice a' m c') ∧ wy.cell? ⟨b0, off0 + k * 4 + 1, none⟩ = some (.int .i64 (pp l k).2.1) ∧ wy.cell? ⟨b0, off0 + k * 4 + 2, none⟩ = some (.int .i64 (pp l k).2.2.1)) → (w5.cell? ⟨w.heap.size, 1, none⟩ = some (.slice (some ⟨b0, off0, none⟩) n c) ∧ w5.cell? ⟨w.heap.size + 3, 0, none⟩ = some (.int .i64 M) ∧ w5.cell? ⟨w.heap.size + 3, 1, none⟩ = some (.slice a' m c') ∧ w5.cell? ⟨b0, off0 + k * 4 + 1, none⟩ = some (.int .i64 (pp l k).2.1) ∧ w5.cell? ⟨b0, off0 + k * 4 + 2, none⟩ = some (.int .i64 (pp l k).2.2.1)) :=
          fun wy w5 hb ⟨z0, z1, z2, z3, z4⟩ => ⟨(hb.cell (World.block_lt_of_cell? wy _ z0)).trans z0, (hb.cell (World.block_lt_of_cell? wy _ z1)).trans z1, (hb.cell (World.block_lt_of_cell? wy _ z2)).trans z2, (hb.cell (World.block_lt_of_cell? wy _ z3)).trans z3, (hb.cell (World.block_lt_of_cell? wy _ z4)).trans z4⟩
        have Q0 := hid q0
        clear q0
        go_region_held3 (fun w' => (w'.cell? ⟨w.heap.size, 1, none⟩ = some (.slice (some ⟨b0, off0, none⟩) n c) ∧ w'.cell? ⟨w.heap.size + 3, 0, none⟩ = some (.int .i64 M) ∧ w'.cell? ⟨w.heap.size + 3, 1, none⟩ = some (.slice a' m c') ∧ w'.cell? ⟨b0, off0 + k * 4 + 1, none⟩ = some (.int .i64 (pp l k).2.1) ∧ w'.cell? ⟨b0, off0 + k * 4 + 2, none⟩ = some (.int .i64 (pp l k).2.2.1))) (first | go_keep | exact Q0.out _ _ (by assumption) (by first | assumption | (refine ⟨?_, ?_, ?_, ?_, ?_⟩ <;> assumption) | simp [*]))
          (first | (go_at_call 74; refine (s_l2Reached M (pp l k).2.1 _ _ _ (span l k) _ ((OwnS.at qf_len hh.out.own).below (by go_grown)) HGS.out HP.out.2.1).mono ?_; rintro e w5 ⟨g5, c5, rfl, ho5, hb5⟩; obtain ⟨hc5, hf5⟩ := bcell hb5) | (go_at_call 75; refine (s_l1Has_is _ _ _ _ _ _ ho5.at (by have := reachL_len (N := (M : Int)) (l := span l k) (wo := 0) (s := (pp l k).2.1); omega) _ FT.out).mono ?_; rintro e _ ⟨rfl, rfl⟩))
        have HS := hid (hh.out.below (bstep (by go_grown : Below wr.heap.size wr wr.drew) hb5))
        clear hb5 ho5 hc5 hf5
        go_wp2
        go_roundg (n - (k + 1))
        case rel => exact ⟨k + 1, a', m, c', by omega, rfl, by go_num, hid (HS.out.skip E.out)⟩
        case measure => omega
      · have E := hid (span_no hp)
        have FT := hid (span_nto HG.out hkl hp)
        clear hp hkl
        go_upto_region 5 with fail
        have q0 : ∀ wy w5 : World, Below wy.heap.size wy w5 → (wy.cell? ⟨w.heap.size, 1, none⟩ = some (.slice (some ⟨b0, off0, none⟩) n c) ∧ wy.cell? ⟨w.heap.size + 3, 0, none⟩ = some (.int .i64 M) ∧ wy.cell? ⟨w.heap.size + 3, 1, none⟩ = some (.slice a' m c') ∧ wy.cell? ⟨b0, off0 + k * 4 + 1, none⟩ = some (.int .i64 (pp l k).2.1) ∧ wy.cell? ⟨b0, off0 + k * 4 + 2, none⟩ = some (.int .i64 (pp l k).2.2.1)) → (w5.cell? ⟨w.heap.size, 1, none⟩ = some (.slice (some ⟨b0, off0, none⟩) n c) ∧ w5.cell? ⟨w.heap.size + 3, 0, none⟩ = some (.int .i64 M) ∧ w5.cell? ⟨w.heap.size + 3, 1, none⟩ = some (.slice a' m c') ∧ w5.cell? ⟨b0, off0 + k * 4 + 1, none⟩ = some (.int .i64 (pp l k).2.1) ∧ w5.cell? ⟨b0, off0 + k * 4 + 2, none⟩ = some (.int .i64 (pp l k).2.2.1)) :=
          fun wy w5 hb ⟨z0, z1, z2, z3, z4⟩ => ⟨(hb.cell (World.block_lt_of_cell? wy _ z0)).trans z0, (hb.cell (World.block_lt_of_cell? wy _ z1)).trans z1, (hb.cell (World.block_lt_of_cell? wy _ z2)).trans z2, (hb.cell (World.block_lt_of_cell? wy _ z3)).trans z3, (hb.cell (World.block_lt_of_cell? wy _ z4)).trans z4⟩
        have Q0 := hid q0
        clear q0
        go_region_held3 (fun w' => (w'.cell? ⟨w.heap.size, 1, none⟩ = some (.slice (some ⟨b0, off0, none⟩) n c) ∧ w'.cell? ⟨w.heap.size + 3, 0, none⟩ = some (.int .i64 M) ∧ w'.cell? ⟨w.heap.size + 3, 1, none⟩ = some (.slice a' m c') ∧ w'.cell? ⟨b0, off0 + k * 4 + 1, none⟩ = some (.int .i64 (pp l k).2.1) ∧ w'.cell? ⟨b0, off0 + k * 4 + 2, none⟩ = some (.int .i64 (pp l k).2.2.1))) (first | go_keep | exact Q0.out _ _ (by assumption) (by first | assumption | (refine ⟨?_, ?_, ?_, ?_, ?_⟩ <;> assumption) | simp [*]))
          (first | (go_at_call 74; refine (s_l2Reached M (pp l k).2.1 _ _ _ (span l k) _ ((OwnS.at qf_len hh.out.own).below (by go_grown)) HGS.out HP.out.2.1).mono ?_; rintro e w5 ⟨g5, c5, rfl, ho5, hb5⟩; obtain ⟨hc5, hf5⟩ := bcell hb5) | (go_at_call 75; refine (s_l1Has_is _ _ _ _ _ _ ho5.at (by have := reachL_len (N := (M : Int)) (l := span l k) (wo := 0) (s := (pp l k).2.1); omega) _ FT.out).mono ?_; rintro e _ ⟨rfl, rfl⟩))
        have HS := hid (hh.out.below (bstep (by go_grown : Below wr.heap.size wr wr.drew) hb5))
        clear hb5 ho5 hc5 hf5
        clear m1 o0 o1 x0 x1 x2 x3 hbw hlt0
        obtain ⟨_, _, e1, hbw, x0, x1, x2, x3⟩ := QAt.get (H.out.below HS.out.bel) k hlt
        cases e1
        have hlt0 := HS.out.lt
        have m1 : w5.cell? ⟨w.heap.size, 1, none⟩ = some (.slice (some ⟨b0, off0, none⟩) n c) := by rw [cell_of_row w5 _ _ _ _ (0, 0) HS.out.arg]; rfl
        have o1 : w5.cell? ⟨w.heap.size + 3, 1, none⟩ = some (.slice a' m c') := by rw [cell_of_row w5 _ _ _ _ (0, 0) HS.out.box]; rfl
        have f1 := frozen_of_row w5 _ 1 _ _ HS.out.box
        have hml := OwnS.len HS.out.own
        have HML := hid hml
        clear hml
        go_upto_region 6 with fail
        go_region_law (refine step_append_q (by rfl) _ _ (by rfl) (w.heap.size + 2) _ (span l k) (by rfl) (by exact OwnS.drew' (OwnS.alloc HS.out.own _)) _ 1 _ [pp l k] (by rfl) (by exact SAt.single _ _ qf_len) (m + 1) (by have := HML.out; omega) (by omega) (by have := HS.out.lo; have := HS.out.lt; simp <;> omega) ?_; intro a2 c2 w2 hown hgrow hblk; have y6 := (hgrow.cell_far ⟨w.heap.size + 3, 1, none⟩ (by simp; omega) (Ne.symm HS.out.ne)); have g6 := (hgrow.frozen_far ⟨w.heap.size + 3, 1, none⟩ (by simp; omega) (Ne.symm HS.out.ne)))
        all_goals
          have HQ := hid (HS.out.put (by go_grown) hgrow hown hblk E.out)
          clear hown hgrow hblk y6 g6 f1 m1 o1 x0 x1 x2 x3
          go_wp2
          go_roundg (n - (k + 1))
          case rel => exact ⟨k + 1, _, _, _, by omega, rfl, by go_num, HQ⟩
          case measure => omega
    · obtain rfl : k = n := by omega
      have o0 : wr.cell? ⟨w.heap.size + 3, 0, none⟩ = some (.int .i64 M) := by rw [cell_of_row wr _ _ _ _ (0, 0) hh.out.box]; rfl
      have o1 : wr.cell? ⟨w.heap.size + 3, 1, none⟩ = some (.slice a' m c') := by rw [cell_of_row wr _ _ _ _ (0, 0) hh.out.box]; rfl
      have m1 : wr.cell? ⟨w.heap.size, 1, none⟩ = some (.slice a k c) := by rw [cell_of_row wr _ _ _ _ (0, 0) hh.out.arg]; rfl
      have y0 : wr.cell? ⟨w.heap.size + 1, 0, none⟩ = some (.int .i64 0) := by rw [cell_of_row wr _ _ _ _ (0, 0) hh.out.res]; rfl
      have y1 : wr.cell? ⟨w.heap.size + 1, 1, none⟩ = some (.slice none 0 0) := by rw [cell_of_row wr _ _ _ _ (0, 0) hh.out.res]; rfl
      have f0 := frozen_of_row wr _ 0 _ _ hh.out.res
      have f1 := frozen_of_row wr _ 1 _ _ hh.out.res
      have e7 := heap_setCell_same _ _ 1 _ _ (.slice a' m c') (heap_setCell_same _ _ 0 _ _ (.int .i64 M) hh.out.res)
      have u0 := cell_of_row _ _ 0 _ _ (0, 0) e7
      have u1 := cell_of_row _ _ 1 _ _ (0, 0) e7
      simp only [List.setIfInBounds_toArray, List.set_cons_zero, List.set_cons_succ, List.getElem?_toArray, List.getElem?_cons_zero, List.getElem?_cons_succ] at u0 u1
      clear e7
      go_wp2
      refine bodyPost_ret (v := .agg #[.int .i64 M, .slice a' m c']) (by simp [results, Try.results92, go_sem, *]) rfl ⟨_, _, _, rfl, ?_, ?_⟩
      · exact ((hh.out.own.far (by omega)).far (by omega)).mono (by omega)
      · exact ((hh.out.bel).setCell (by show w.heap.size ≤ w.heap.size + 1; omega) _).setCell (by show w.heap.size ≤ w.heap.size + 1; omega) _

end Go.Proofs.Ytikjighlnpdgiaa

