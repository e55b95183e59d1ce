/-
  The cursor that the draws read from.
-/
import Derived.Test.YtbeeonpefmdkeaaMem
set_option linter.unusedVariables false
set_option linter.unusedSimpArgs false
namespace Go.Proofs.Ytbeeonpefmdkeaa
open Go.RowKit

/-- A cursor at the block g, at most K bytes read. -/
def Cur (w : World) (g K : Nat) : Prop :=
  ∃ (a : Option Addr) (n c k : Nat) (s : Int), k ≤ K ∧ n ≤ 9223372036854775807 ∧ w.heap[g]? = some (.cells #[.slice a n c, .int .i64 k, .int .u64 s] 80 (0, 0)) ∧
    ∀ i, i < n → ∃ (b o : Nat) (v : Int), a = some ⟨b, o, none⟩ ∧ b < g ∧ w.cell? ⟨b, o + i, none⟩ = some (.int .u8 v) ∧ 0 ≤ v ∧ v < 256

theorem grown_cell {w w' : World} {g : Nat} (h : w.grownBy w' (some g)) (p : Addr) (hp : p.block < w.heap.size) (hne : p.block ≠ g) : w'.cell? p = w.cell? p := by
  unfold World.cell?
  rw [h.block p.block hp (fun e => hne (Option.some.inj e))]

theorem Cur.le {w : World} {g K K' : Nat} (h : Cur w g K) (hk : K ≤ K') : Cur w g K' := by
  obtain ⟨a, n, c, k, s, h1, h2⟩ := h
  exact ⟨a, n, c, k, s, by omega, h2⟩

set_option maxHeartbeats 1000000 in
theorem c_next (g K : Nat) (w : World) (h : Cur w g K) (hK : K ≤ 1000000000000) :
    Calls Try.prog 83 #[.pointer (some ⟨g, 0, none⟩)] w fun e w' => (∃ v : Int, e = .returned (.int .i64 v) ∧ 0 ≤ v ∧ v < 256) ∧ Cur w' g (K + 1) ∧ w.grownBy w' (some g) := by
  obtain ⟨a, n, c, k, s, hk, hn, hr, hb⟩ := h
  have HR := hid hr
  have HB := hid hb
  have n0 := cell_of_row w _ 0 _ _ (0, 0) hr
  have n1 := cell_of_row w _ 1 _ _ (0, 0) hr
  have n2 := cell_of_row w _ 2 _ _ (0, 0) hr
  have f1 := frozen_of_row w _ 1 _ _ hr
  have f2 := frozen_of_row w _ 2 _ _ hr
  simp only [List.getElem?_toArray, List.getElem?_cons_zero, List.getElem?_cons_succ] at n0 n1 n2
  have hz : g < w.heap.size := World.block_lt_of_cell? w _ n0
  clear hr hb
  by_cases hlt : k < n
  · obtain ⟨b, o, v, rfl, hbg, hcl, v0, v1⟩ := HB.out k hlt
    have hbz : b < w.heap.size := by omega
    have hne : ¬ b = g := by omega
    have hne2 : ¬ g = b := by omega
    have i0 : (0 : Int) ≤ (k : Int) := by omega
    have i1 : (k : Int) < (n : Int) := by omega
    go_enter Try.func83, Try.ntmps83
    go_wp2
    go_quiet (fail)
    go_wp2
    go_quiet (fail)
    have hw1 := IntWalk.i64_in ((k : Int) + 1) (by omega)
    go_upto_region 6 with fail
    generalize hwd : w.drewN _ = wd
    have hr1 : wd.heap[g]? = some (.cells #[.slice (some ⟨b, o, none⟩) n c, .int .i64 k, .int .u64 s] 80 (0, 0)) := by rw [← hwd]; exact HR.out
    have hbd : Below w.heap.size w wd := by rw [← hwd]; exact bdraws _
    generalize IntKind.u64.wrap (IntKind.u64.wrap (IntKind.u64.wrap (s * 6364136223846793005) + v) + 853853) = s1 at *
    have r7 := heap_setCell_same _ _ 2 _ _ (.int .u64 s1) (heap_setCell_same _ _ 1 _ _ (.int .i64 ((k : Int) + 1)) hr1)
    simp only [List.setIfInBounds_toArray, List.set_cons_zero, List.set_cons_succ] at r7
    have hg2 : w.grownBy ((wd.setCell ⟨g, 1, none⟩ (.int .i64 ((k : Int) + 1))).setCell ⟨g, 2, none⟩ (.int .u64 s1)) (some g) := grownBy_trans (grownBy_trans (grown_of_below hbd _) (grown_setCell wd g 1 _)) (grown_setCell _ g 2 _)
    have hcur : Cur ((wd.setCell ⟨g, 1, none⟩ (.int .i64 ((k : Int) + 1))).setCell ⟨g, 2, none⟩ (.int .u64 s1)) g (K + 1) := by
      refine ⟨_, n, c, k + 1, s1, by omega, hn, by rw [r7]; rfl, fun i hi => ?_⟩
      obtain ⟨b, o, v, e, h1, h2, h3⟩ := HB.out i hi
      exact ⟨b, o, v, e, h1, (grown_cell hg2 ⟨b, o + i, none⟩ (by show b < _; omega) (by show b ≠ g; omega)).trans h2, h3⟩
    have m0 := cell_of_row _ _ 0 _ _ (0, 0) r7
    have m1 := cell_of_row _ _ 1 _ _ (0, 0) r7
    have m2 := cell_of_row _ _ 2 _ _ (0, 0) r7
    simp only [List.getElem?_toArray, List.getElem?_cons_zero, List.getElem?_cons_succ] at m0 m1 m2
    have HC := hid hcur
    have HG2 := hid hg2
    generalize (wd.setCell ⟨g, 1, none⟩ (.int .i64 ((k : Int) + 1))).setCell ⟨g, 2, none⟩ (.int .u64 s1) = w6 at *
    clear n0 n1 n2 f1 f2 hwd hr1 hbd r7 hg2 hcur
    have hz6 : g < w6.heap.size := World.block_lt_of_cell? w6 _ m0
    have hle : (k : Int) + 1 ≤ (n : Int) := by omega
    go_quiet (fail)
    go_wp2
    go_ret
    exact ⟨⟨v, rfl, v0, v1⟩, HC.out, grownBy_trans HG2.out (grown_of_below (bdraws _) _)⟩
  · have hd : decide ((k : Int) < (n : Int)) = false := by simp; omega
    go_enter Try.func83, Try.ntmps83
    go_wp2
    go_quiet (fail)
    have hw1 := IntWalk.i64_in ((k : Int) + 1) (by omega)
    go_upto_region 6 with fail
    generalize hwd : w.drewN _ = wd
    have hr1 : wd.heap[g]? = some (.cells #[.slice a n c, .int .i64 k, .int .u64 s] 80 (0, 0)) := by rw [← hwd]; exact HR.out
    have hbd : Below w.heap.size w wd := by rw [← hwd]; exact bdraws _
    have hrange : 0 ≤ IntKind.u64.wrap (IntKind.u64.wrap (IntKind.u64.wrap (s * 6364136223846793005)) + 853853) ∧ IntKind.u64.wrap (IntKind.u64.wrap (IntKind.u64.wrap (s * 6364136223846793005)) + 853853) < 18446744073709551616 := by rw [IntKind.wrap_u64]; omega
    generalize IntKind.u64.wrap (IntKind.u64.wrap (IntKind.u64.wrap (s * 6364136223846793005)) + 853853) = s1 at *
    have r7 := heap_setCell_same _ _ 2 _ _ (.int .u64 s1) (heap_setCell_same _ _ 1 _ _ (.int .i64 ((k : Int) + 1)) hr1)
    simp only [List.setIfInBounds_toArray, List.set_cons_zero, List.set_cons_succ] at r7
    have hg2 : w.grownBy ((wd.setCell ⟨g, 1, none⟩ (.int .i64 ((k : Int) + 1))).setCell ⟨g, 2, none⟩ (.int .u64 s1)) (some g) := grownBy_trans (grownBy_trans (grown_of_below hbd _) (grown_setCell wd g 1 _)) (grown_setCell _ g 2 _)
    have hcur : Cur ((wd.setCell ⟨g, 1, none⟩ (.int .i64 ((k : Int) + 1))).setCell ⟨g, 2, none⟩ (.int .u64 s1)) g (K + 1) := by
      refine ⟨_, n, c, k + 1, s1, by omega, hn, by rw [r7]; rfl, fun i hi => ?_⟩
      obtain ⟨b, o, v, e, h1, h2, h3⟩ := HB.out i hi
      exact ⟨b, o, v, e, h1, (grown_cell hg2 ⟨b, o + i, none⟩ (by show b < _; omega) (by show b ≠ g; omega)).trans h2, h3⟩
    have m0 := cell_of_row _ _ 0 _ _ (0, 0) r7
    have m1 := cell_of_row _ _ 1 _ _ (0, 0) r7
    have m2 := cell_of_row _ _ 2 _ _ (0, 0) r7
    simp only [List.getElem?_toArray, List.getElem?_cons_zero, List.getElem?_cons_succ] at m0 m1 m2
    have HC := hid hcur
    have HG2 := hid hg2
    generalize (wd.setCell ⟨g, 1, none⟩ (.int .i64 ((k : Int) + 1))).setCell ⟨g, 2, none⟩ (.int .u64 s1) = w6 at *
    clear n0 n1 n2 f1 f2 hwd hr1 hbd r7 hg2 hcur
    have hz6 : g < w6.heap.size := World.block_lt_of_cell? w6 _ m0
    have hle : ¬ (k : Int) + 1 ≤ (n : Int) := by omega
    go_quiet (fail)
    go_wp2
    have hv : bits .and .u64 (s1 / 1099511627776) 255 = (s1 / 1099511627776) % 256 := by
      have h := bits_mask .u64 63 (by decide) (fun n h0 h1 => by rw [IntKind.wrap_u64]; omega) 8 (by decide) (s1 / 1099511627776) (by omega) (by omega)
      have e : ((2 : Int) ^ 8 - 1) = 255 := by decide
      have e2 : ((2 : Int) ^ 8) = 256 := by decide
      rw [e, e2] at h
      exact h
    rw [hv]
    have hv2 : wrap64 (s1 / 1099511627776 % 256) = s1 / 1099511627776 % 256 := by unfold wrap64; omega
    rw [hv2]
    go_ret
    exact ⟨⟨_, rfl, by omega, by omega⟩, HC.out, grownBy_trans HG2.out (grown_of_below (bdraws _) _)⟩

theorem IntsAt.lit (w : World) (e : TypeId) (l : List Int) : IntsAt (w.alloc (.cells (l.map fun x => .int .i64 x).toArray e)) (some ⟨w.heap.size, 0, none⟩) l.length l := by
  refine ⟨rfl, fun i hi => ⟨w.heap.size, 0, rfl, by simp, ?_⟩⟩
  rw [cell_of_row _ _ _ _ _ (0, 0) (heap_alloc_new _ _)]
  simp [hi]

theorem IntsAt.lit' (w : World) (e : TypeId) (l : List Int) {cs : Array Value} {b : Nat} (hcs : cs = (l.map fun x => Value.int .i64 x).toArray) (hb : b = w.heap.size) : IntsAt (w.alloc (.cells cs e)) (some ⟨b, 0, none⟩) l.length l := by
  subst hb
  subst hcs
  exact IntsAt.lit w e l

set_option maxHeartbeats 1000000 in
theorem c_pick (g K : Nat) (n : Int) (w : World) (h : Cur w g K) (hK : K ≤ 900000000000) (hn : -9223372036854775808 ≤ n ∧ n ≤ 9223372036854775807) :
    Calls Try.prog 79 #[.pointer (some ⟨g, 0, none⟩), .int .i64 n] w fun e w' => (∃ v : Int, e = .returned (.int .i64 v) ∧ 0 ≤ v ∧ (v < n ∨ v = 0)) ∧ Cur w' g (K + 2) ∧ w.grownBy w' (some g) := by
  have H := hid h
  clear h
  by_cases h1 : n ≤ 1
  · go_enter Try.func79, Try.ntmps79
    go_wp2
    go_ret
    exact ⟨⟨0, rfl, by omega, .inr rfl⟩, Cur.le H.out (by omega), grown_of_below (Below.refl _ _) _⟩
  · by_cases h2 : 200 < n
    · go_enter Try.func79, Try.ntmps79
      go_wp2_with fail
      refine (c_next g K _ H.out (by omega)).mono ?_
      rintro e w1 ⟨⟨v, rfl, v0, v1⟩, hc1, hg1⟩
      have HC1 := hid hc1
      have HG1 := hid hg1
      have hw1 := IntWalk.i64_in (v * 256) (by omega)
      clear hc1 hg1
      go_wp2_with fail
      refine (c_next g (K + 1) _ HC1.out (by omega)).mono ?_
      rintro e w2 ⟨⟨u, rfl, u0, u1⟩, hc2, hg2⟩
      have HC2 := hid hc2
      have HG2 := hid (grownBy_trans HG1.out hg2)
      have hw2 := IntWalk.i64_in (v * 256 + u) (by omega)
      clear hc2 hg2
      go_wp2
      go_ret
      exact ⟨⟨_, rfl, Int.emod_nonneg _ (by omega), .inl (Int.emod_lt_of_pos _ (by omega))⟩, HC2.out, HG2.out⟩
    · go_enter Try.func79, Try.ntmps79
      go_wp2_with fail
      refine (c_next g K _ H.out (by omega)).mono ?_
      rintro e w1 ⟨⟨v, rfl, v0, v1⟩, hc1, hg1⟩
      have HC1 := hid hc1
      have HG1 := hid hg1
      clear hc1 hg1
      go_wp2
      go_ret
      exact ⟨⟨_, rfl, Int.emod_nonneg _ (by omega), .inl (Int.emod_lt_of_pos _ (by omega))⟩, HC1.out.le (by omega), HG1.out⟩

theorem c_one (g K : Nat) (n : Int) (w : World) (h : Cur w g K) (hK : K ≤ 900000000000) (hn : -9223372036854775808 ≤ n ∧ n ≤ 9223372036854775807) :
    Calls Try.prog 80 #[.pointer (some ⟨g, 0, none⟩), .int .i64 n] w fun e w' => (∃ b : Bool, e = .returned (.bool b)) ∧ Cur w' g (K + 2) ∧ w.grownBy w' (some g) := by
  have H := hid h
  clear h
  go_enter Try.func80, Try.ntmps80
  go_wp2_with fail
  refine (c_pick g K n _ H.out hK hn).mono ?_
  rintro e w1 ⟨⟨v, rfl, v0, v1⟩, hc1, hg1⟩
  have HC1 := hid hc1
  have HG1 := hid hg1
  clear hc1 hg1
  go_wp2
  go_ret
  exact ⟨⟨_, rfl⟩, HC1.out, HG1.out⟩

theorem c_among (g K b n c : Nat) (l : List Int) (w : World) (h : Cur w g K) (hK : K ≤ 900000000000) (hl : IntsAt w (some ⟨b, 0, none⟩) n l) (hne : b ≠ g) (hn : 0 < n) (hn2 : n ≤ 1000) :
    Calls Try.prog 72 #[.pointer (some ⟨g, 0, none⟩), .slice (some ⟨b, 0, none⟩) n c] w fun e w' => (∃ v : Int, e = .returned (.int .i64 v) ∧ v ∈ l) ∧ Cur w' g (K + 2) ∧ w.grownBy w' (some g) := by
  have H := hid h
  have HL := hid hl
  clear h hl
  go_enter Try.func72, Try.ntmps72
  go_wp2_with fail
  refine (c_pick g K n _ H.out hK (by omega)).mono ?_
  rintro e w1 ⟨⟨v, rfl, v0, v1⟩, hc1, hg1⟩
  have HC1 := hid hc1
  have HG1 := hid hg1
  obtain ⟨i, rfl⟩ : ∃ i : Nat, v = i := ⟨v.toNat, by omega⟩
  have hi : i < n := by omega
  have hi2 : (i : Int) < (n : Int) := by omega
  obtain ⟨b1, o1, e1, hb1, hcl⟩ := HL.out.2 i hi
  simp only [Option.some.injEq, Addr.mk.injEq] at e1
  obtain ⟨rfl, rfl, -⟩ := e1
  have hcl1 := (grown_cell hg1 ⟨b, 0 + i, none⟩ hb1 hne).trans hcl
  rw [Nat.zero_add] at hcl1
  clear hc1 hg1 hcl v1
  go_wp2
  go_ret
  exact ⟨⟨_, rfl, getD_mem l i (by have := HL.out.1; omega)⟩, HC1.out, HG1.out⟩

end Go.Proofs.Ytbeeonpefmdkeaa
