/-
  The draws of tanks and days.
-/
import Derived.Test.YtbeeonpefmdkeaaCur
set_option linter.unusedVariables false
set_option linter.unusedSimpArgs false
namespace Go.Proofs.Ytbeeonpefmdkeaa
open Go.RowKit

theorem Cur.kept {w w' : World} {g K : Nat} {row : Option Nat} (h : Cur w g K) (hg : w.grownBy w' row) (hr : ∀ k, row = some k → g < k) : Cur w' g K := by
  obtain ⟨a, n, c, k, s, h1, h2, h3, h4⟩ := h
  have hz : g < w.heap.size := by
    apply Classical.byContradiction
    intro hz
    rw [Array.getElem?_eq_none (by omega)] at h3
    cases h3
  refine ⟨a, n, c, k, s, h1, h2, by rw [hg.block g hz (fun e => by have := hr g e.symm; omega)]; exact h3, fun i hi => ?_⟩
  obtain ⟨b, o, v, e, h5, h6, h7⟩ := h4 i hi
  refine ⟨b, o, v, e, h5, ?_, h7⟩
  rw [← h6]
  unfold World.cell?
  rw [hg.block b (by omega) (fun e => by have := hr b e.symm; omega)]
theorem Cur.below {w w' : World} {g K : Nat} (h : Cur w g K) (hb : Below w.heap.size w w') : Cur w' g K := h.kept (grown_of_below hb none) (fun k e => by cases e)
theorem Cur.lt {w : World} {g K : Nat} (h : Cur w g K) : g < w.heap.size := by
  obtain ⟨a, n, c, k, s, h1, h2, h3, h4⟩ := h
  apply Classical.byContradiction
  intro hz
  rw [Array.getElem?_eq_none (by omega)] at h3
  cases h3
theorem grown_step {w a b : World} {g : Nat} {row : Option Nat} (h1 : w.grownBy a (some g)) (h2 : a.grownBy b row) (hr : ∀ k, row = some k → w.heap.size ≤ k ∨ k = g) : w.grownBy b (some g) := by
  refine ⟨h2.os.trans h1.os, h2.tape.trans h1.tape, h2.output.trans h1.output, Nat.le_trans h1.size h2.size, fun i hi hne => ?_⟩
  rw [h2.block i (by have := h1.size; omega) (fun e => ?_), h1.block i hi hne]
  rcases hr i e.symm with h | h
  · omega
  · exact hne (by rw [h])
theorem ownI_ne {w : World} {B g : Nat} {v : Value} {l : List Int} (h : OwnI w B v l) (hg : g < B) : v.ownBlock = none ∨ v.ownBlock ≠ some g := by
  cases e : v.ownBlock with
  | none => exact .inl rfl
  | some k => exact .inr (fun e2 => by have h1 := (h.lt k e).1; have := Option.some.inj e2; omega)

theorem own_someC {w : World} {B n c : Nat} {a : Option Addr} {l : List Int} (h : OwnI w B (.slice a n c) l) (hn : 0 < n) : ∃ g, a = some ⟨g, 0, none⟩ ∧ B ≤ g ∧ g < w.heap.size := by
  have hlt := h.lt
  have hl := h.len
  unfold OwnI at h
  rcases h.2 with ⟨h1, h0⟩ | ⟨g, cap, cur, h1, hB, hg, hnc, hm, hs, ht⟩
  · simp only [Value.slice.injEq] at h1
    omega
  · simp only [Value.slice.injEq] at h1
    obtain ⟨rfl, -, rfl⟩ := h1
    exact ⟨g, rfl, hlt g rfl⟩

set_option maxHeartbeats 4000000 in
theorem c_volumes (g K n : Nat) (w : World) (h : Cur w g K) (hK : K ≤ 100000000000) (hn : n ≤ 14) :
    Calls Try.prog 81 #[.pointer (some ⟨g, 0, none⟩), .int .i64 n] w fun e w' => (∃ (a' : Option Addr) (c' : Nat) (l : List Int), e = .returned (.slice a' n c') ∧ OwnI w' w.heap.size (.slice a' n c') l) ∧ Cur w' g (K + 40) ∧ w.grownBy w' (some g) := by
  have H := hid h
  have hgz := h.lt
  clear h
  go_enter Try.func81, Try.ntmps81
  go_wp2
  go_loopg [5, 6] n (fun m o i wr => ∃ (k : Nat) (a' : Option Addr) (c' : Nat) (l : List Int), k ≤ n ∧ m = n - k ∧ i = .int .i64 k ∧ o = .slice a' k c' ∧ Hid (OwnI wr w.heap.size (.slice a' k c') l ∧ Cur wr g (K + 2 * k) ∧ w.grownBy wr (some g)))
  case atStart => exact ⟨0, _, 0, [], Nat.zero_le _, rfl, rfl, rfl, hid ⟨OwnI.lit0 w, H.out.below (by go_grown), grown_of_below (by go_grown) _⟩⟩
  case round =>
    obtain ⟨k, a', c', l, hk, rfl, rfl, rfl, hh⟩ := hrel
    by_cases hlt : k < n
    · go_wp2_with fail
      refine (c_among g (K + 2 * k) wr.heap.size 8 8 [0, 1, 3, 5, 5, 8, 12, 20] _ (hh.out.2.1.below (by go_grown)) (by omega) (IntsAt.lit' wr 3 [0, 1, 3, 5, 5, 8, 12, 20] rfl rfl) (by have := hh.out.2.1.lt; omega) (by omega) (by omega)).mono ?_
      rintro e w5 ⟨⟨v, rfl, hv⟩, hc5, hg5⟩
      have HC5 := hid hc5
      have HO5 := hid ((hh.out.1.alloc (.cells #[.int .i64 0, .int .i64 1, .int .i64 3, .int .i64 5, .int .i64 5, .int .i64 8, .int .i64 12, .int .i64 20] 3)).kept hg5 (ownI_ne hh.out.1 hgz))
      have HG5 := hid (grownBy_trans (grownBy_trans hh.out.2.2 (grown_of_below (by go_grown) _)) hg5 : w.grownBy w5 (some g))
      have hll := hh.out.1.len
      clear hc5 hg5 hv
      go_wp2_with (at_builtin; refine wp_append_ints _ rfl _ _ rfl w.heap.size _ l rfl (HO5.out.alloc _) _ 1 1 [v] rfl (IntsAt.single _ _) (k + 1) (by simp <;> omega) (by omega) (by have := HG5.out.size; simp; omega) ?_)
      intro a2 c2 w6 hown hgrow hblk
      have S2 := hid (show OwnI w6 w.heap.size (.slice a2 (k + 1) c2) (l ++ [v]) ∧ Cur w6 g (K + 2 * (k + 1)) ∧ w.grownBy w6 (some g) from
        ⟨hown, ((HC5.out.below (by go_grown)).kept hgrow (fun k hk => by have := (HO5.out.lt k hk).1; omega)).le (by omega), grown_step (grownBy_trans HG5.out (grown_of_below (by go_grown) _)) hgrow (fun k hk => .inl (HO5.out.lt k hk).1)⟩)
      clear hown hgrow hblk
      go_wp2
      go_roundg (n - (k + 1))
      case rel => exact ⟨k + 1, _, _, _, by omega, rfl, by go_num, rfl, S2⟩
      case measure => omega
    · obtain rfl : n = k := by omega
      by_cases h0 : 0 < n
      · have h0i : (0 : Int) < (n : Int) := by omega
        obtain ⟨go, rfl, hgo1, hgo2⟩ := own_someC hh.out.1 h0
        go_wp2_with fail
        refine (c_one g _ 24 _ hh.out.2.1 (by omega) (by omega)).mono ?_
        rintro e w5 ⟨⟨b, rfl⟩, hc5, hg5⟩
        have S5 := hid (show OwnI w5 w.heap.size (.slice (some ⟨go, 0, none⟩) n c') l ∧ Cur w5 g (K + 2 * n + 2) ∧ w.grownBy w5 (some g) from ⟨hh.out.1.kept hg5 (ownI_ne hh.out.1 hgz), hc5, grownBy_trans hh.out.2.2 hg5⟩)
        clear hc5 hg5
        cases b
        · go_wp2
          go_ret
          exact ⟨⟨_, _, _, rfl, S5.out.1⟩, S5.out.2.1.le (by omega), S5.out.2.2⟩
        · go_wp2_with fail
          refine (c_pick g _ n _ S5.out.2.1 (by omega) (by omega)).mono ?_
          rintro e w6 ⟨⟨v, rfl, v0, v1⟩, hc6, hg6⟩
          obtain ⟨i, rfl⟩ : ∃ i : Nat, v = i := ⟨v.toNat, by omega⟩
          have S6 := hid (show OwnI w6 w.heap.size (.slice (some ⟨go, 0, none⟩) n c') l ∧ Cur w6 g (K + 2 * n + 4) ∧ w.grownBy w6 (some g) from ⟨S5.out.1.kept hg6 (ownI_ne S5.out.1 hgz), hc6, grownBy_trans S5.out.2.2 hg6⟩)
          have hi : i < n := by omega
          have hi2 : (i : Int) < (n : Int) := by omega
          clear hc6 hg6 v1
          go_wp2_with fail
          refine (c_among g _ w6.heap.size 3 3 [-1, 100, 101] _ (S6.out.2.1.below (by go_grown)) (by omega) (IntsAt.lit' w6 3 [-1, 100, 101] rfl rfl) (by have := S6.out.2.1.lt; omega) (by omega) (by omega)).mono ?_
          rintro e w7 ⟨⟨u, rfl, hu⟩, hc7, hg7⟩
          have S7 := hid (show OwnI w7 w.heap.size (.slice (some ⟨go, 0, none⟩) n c') l ∧ Cur w7 g (K + 2 * n + 6) ∧ w.grownBy w7 (some g) from ⟨(S6.out.1.alloc _).kept hg7 (ownI_ne S6.out.1 hgz), hc7, grownBy_trans (grownBy_trans S6.out.2.2 (grown_of_below (by go_grown) _)) hg7⟩)
          have hcl := S7.out.1.cell (k := i) hi
          have hfr := S7.out.1.frozen (k := i)
          have SS := hid (S7.out.1.set (k := i) u)
          clear hc7 hg7 hu
          go_wp2
          go_ret
          exact ⟨⟨_, _, _, rfl, SS.out.1⟩, (S7.out.2.1.kept SS.out.2 (fun k hk => by cases hk; omega)).le (by omega), grown_step S7.out.2.2 SS.out.2 (fun k hk => by cases hk; exact .inl hgo1)⟩
      · obtain rfl : n = 0 := by omega
        go_wp2
        go_ret
        exact ⟨⟨_, _, _, rfl, hh.out.1⟩, hh.out.2.1.le (by omega), hh.out.2.2⟩

theorem three_of {w : World} {b : Nat} {x y z : Value} {t : TypeId} (h : w.heap[b]? = some (.cells #[x, y, z] t (0, 0))) : w.cell? ⟨b, 0, none⟩ = some x ∧ w.cell? ⟨b, 1, none⟩ = some y ∧ w.cell? ⟨b, 2, none⟩ = some z :=
  ⟨by rw [cell_of_row w _ _ _ _ (0, 0) h]; rfl, by rw [cell_of_row w _ _ _ _ (0, 0) h]; rfl, by rw [cell_of_row w _ _ _ _ (0, 0) h]; rfl⟩

theorem Cur.set {w : World} {g K b j : Nat} {u : Value} (h : Cur w g K) (hb : g < b) : Cur (w.setCell ⟨b, j, none⟩ u) g K := h.kept (grown_setCell w b j u) (fun k e => by cases e; exact hb)
theorem grown_set {w a : World} {g b j : Nat} {u : Value} (h : w.grownBy a (some g)) (hb : w.heap.size ≤ b) : w.grownBy (a.setCell ⟨b, j, none⟩ u) (some g) := grown_step h (grown_setCell a b j u) (fun k e => by cases e; exact .inl hb)

set_option maxHeartbeats 4000000 in
theorem c_tank (g K : Nat) (w : World) (h : Cur w g K) (hK : K ≤ 100000000000) :
    Calls Try.prog 70 #[.pointer (some ⟨g, 0, none⟩)] w fun e w' => (∃ x y z : Int, e = .returned (.agg #[.int .i64 x, .int .i64 y, .int .i64 z])) ∧ Cur w' g (K + 40) ∧ w.grownBy w' (some g) := by
  have H := hid h
  have hgz := h.lt
  clear h
  go_enter Try.func70, Try.ntmps70
  go_wp2_with fail
  refine (c_among g K (w.heap.size + 1) 4 4 [0, 0, 5, 10] _ (H.out.below (by go_grown)) (by omega) (IntsAt.lit' _ 3 [0, 0, 5, 10] rfl (by simp)) (by omega) (by omega) (by omega)).mono ?_
  rintro e w1 ⟨⟨v, rfl, hv⟩, hc1, hg1⟩
  have hv1 : 0 ≤ v ∧ v ≤ 10 := by
    simp only [List.mem_cons, List.not_mem_nil, or_false] at hv
    omega
  have HC1 := hid hc1
  have T1 := hid (show w1.heap[w.heap.size]? = some (.cells #[.int .i64 0, .int .i64 0, .int .i64 0] 25 (0, 0)) from (hg1.block w.heap.size (by simp only [World.size_alloc]; omega) (by simp <;> omega)).trans (mid_new w (.cells #[.int .i64 0, .int .i64 0, .int .i64 0] 25) (.cells #[.int .i64 0, .int .i64 0, .int .i64 5, .int .i64 10] 3) _ rfl))
  have G1 := hid (grownBy_trans (grown_of_below (by go_grown) _) hg1 : w.grownBy w1 (some g))
  have hz1 : w.heap.size < w1.heap.size := by have := hg1.size; simp at this; omega
  clear hc1 hg1 hv
  go_wp2_with fail
  refine (c_among g (K + 2) w1.heap.size 4 4 [0, 10, 20, 40] _ (HC1.out.below (by go_grown)) (by omega) (IntsAt.lit' _ 3 [0, 10, 20, 40] rfl rfl) (by omega) (by omega) (by omega)).mono ?_
  rintro e w2 ⟨⟨u, rfl, hu⟩, hc2, hg2⟩
  have hu1 : 0 ≤ u ∧ u ≤ 40 := by
    simp only [List.mem_cons, List.not_mem_nil, or_false] at hu
    omega
  have HC2 := hid hc2
  have T2 := hid (show w2.heap[w.heap.size]? = some (.cells #[.int .i64 0, .int .i64 0, .int .i64 0] 25 (0, 0)) from (hg2.block w.heap.size (by simp only [World.size_alloc]; omega) (by simp <;> omega)).trans (by rw [Below.heap_alloc _ _ _ hz1]; exact T1.out))
  have G2 := hid (grownBy_trans (grownBy_trans G1.out (grown_of_below (by go_grown) _)) hg2 : w.grownBy w2 (some g))
  have hz2 : w.heap.size < w2.heap.size := by have := hg2.size; simp at this; omega
  have hw1 := IntWalk.i64_in (v + u) (by omega)
  have hw2 := IntWalk.i64_in (v + u - v) (by omega)
  have hw3 := IntWalk.i64_in (v + u - v + 1) (by omega)
  clear hc2 hg2 hu
  go_wp2_with fail
  refine (c_pick g (K + 4) _ _ HC2.out (by omega) (by omega)).mono ?_
  rintro e w3 ⟨⟨x, rfl, x0, x1⟩, hc3, hg3⟩
  have HC3 := hid hc3
  have T3 := hid ((hg3.block w.heap.size hz2 (by simp <;> omega)).trans T2.out)
  have G3 := hid (grownBy_trans G2.out hg3)
  have hz3 : w.heap.size < w3.heap.size := by have := hg3.size; omega
  have hw4 := IntWalk.i64_in (v + x) (by omega)
  clear hc3 hg3
  have W3 := hid (show Cur (w3.alloc (.cells #[.int .i64 (v + x), .int .i64 v, .int .i64 (v + u)] 25)) g (K + 6) ∧ w.grownBy (w3.alloc (.cells #[.int .i64 (v + x), .int .i64 v, .int .i64 (v + u)] 25)) (some g) ∧ (w3.alloc (.cells #[.int .i64 (v + x), .int .i64 v, .int .i64 (v + u)] 25)).heap[w.heap.size]? = some (.cells #[.int .i64 0, .int .i64 0, .int .i64 0] 25 (0, 0)) ∧ (w3.alloc (.cells #[.int .i64 (v + x), .int .i64 v, .int .i64 (v + u)] 25)).heap[w3.heap.size]? = some (.cells #[.int .i64 (v + x), .int .i64 v, .int .i64 (v + u)] 25 (0, 0)) from
    ⟨HC3.out.below (by go_grown), grownBy_trans G3.out (grown_of_below (by go_grown) _), by rw [Below.heap_alloc _ _ _ hz3]; exact T3.out, heap_alloc_new _ _⟩)
  have hz3' : w3.heap.size < (w3.alloc (.cells #[.int .i64 (v + x), .int .i64 v, .int .i64 (v + u)] 25)).heap.size := by simp
  go_wp2_with fail
  generalize w3.alloc (.cells #[.int .i64 (v + x), .int .i64 v, .int .i64 (v + u)] 25) = w4 at *
  clear T1 T2 T3 G1 G2 G3 HC1 HC2 HC3
  refine (c_pick g (K + 6) 24 _ W3.out.1 (by omega) (by omega)).mono ?_
  rintro e w5 ⟨⟨y, rfl, y0, y1⟩, hc5, hg5⟩
  have W5 := hid (show Cur w5 g (K + 8) ∧ w.grownBy w5 (some g) ∧ w5.heap[w.heap.size]? = some (.cells #[.int .i64 0, .int .i64 0, .int .i64 0] 25 (0, 0)) ∧ w5.heap[w3.heap.size]? = some (.cells #[.int .i64 (v + x), .int .i64 v, .int .i64 (v + u)] 25 (0, 0)) from
    ⟨hc5, grownBy_trans W3.out.2.1 hg5, (hg5.block _ (by omega) (by simp <;> omega)).trans W3.out.2.2.1, (hg5.block _ hz3' (by simp <;> omega)).trans W3.out.2.2.2⟩)
  have hz5 := hg5.size
  clear hc5 hg5 W3
  obtain ⟨m0, m1, m2⟩ := three_of W5.out.2.2.2
  have fa := fun j => frozen_of_row w5 w3.heap.size j _ _ W5.out.2.2.2
  have fb := fun j => frozen_of_row w5 w.heap.size j _ _ W5.out.2.2.1
  obtain ⟨q0, q1, q2⟩ := three_of W5.out.2.2.1
  have hne : ¬ w.heap.size = w3.heap.size := by omega
  have hne2 : ¬ w3.heap.size = w.heap.size := by omega
  by_cases e0 : y = 0
  · have k0 : (y == 0) = true := by simp [e0]
    go_wp2_with fail
    refine (c_among g (K + 8) w5.heap.size 3 3 [60, 61, v + x - 1] _ (W5.out.1.below (by go_grown)) (by omega) (IntsAt.lit' _ 3 [60, 61, v + x - 1] rfl rfl) (by have := W5.out.1.lt; omega) (by omega) (by omega)).mono ?_
    rintro e w6 ⟨⟨t, rfl, ht⟩, hc6, hg6⟩
    have W6 := hid (show Cur w6 g (K + 10) ∧ w.grownBy w6 (some g) ∧ w6.heap[w.heap.size]? = some (.cells #[.int .i64 0, .int .i64 0, .int .i64 0] 25 (0, 0)) ∧ w6.heap[w3.heap.size]? = some (.cells #[.int .i64 (v + x), .int .i64 v, .int .i64 (v + u)] 25 (0, 0)) from
      ⟨hc6, grownBy_trans (grownBy_trans W5.out.2.1 (grown_of_below (by go_grown) _)) hg6, (hg6.block _ (by simp only [World.size_alloc]; omega) (by simp <;> omega)).trans (by rw [Below.heap_alloc _ _ _ (by omega)]; exact W5.out.2.2.1), (hg6.block _ (by simp only [World.size_alloc]; omega) (by simp <;> omega)).trans (by rw [Below.heap_alloc _ _ _ (by omega)]; exact W5.out.2.2.2)⟩)
    have hz6 := hg6.size
    simp only [World.size_alloc] at hz6
    clear hc6 hg6 W5 m0 m1 m2 q0 q1 q2 fa fb ht
    obtain ⟨m0, m1, m2⟩ := three_of W6.out.2.2.2
    obtain ⟨q0, q1, q2⟩ := three_of W6.out.2.2.1
    have fa := fun j => frozen_of_row w6 w3.heap.size j _ _ W6.out.2.2.2
    have fb := fun j => frozen_of_row w6 w.heap.size j _ _ W6.out.2.2.1
    have hzz : w.heap.size < w6.heap.size := by omega
    have hzz3 : w3.heap.size < w6.heap.size := by omega
    go_wp2
    refine bodyPost_ret (v := .agg #[.int .i64 (v + x), .int .i64 v, .int .i64 t]) (by simp [results, Try.results70, go_sem, *]) rfl ⟨⟨_, _, _, rfl⟩, ?_, ?_⟩
    · exact ((((W6.out.1.le (by omega)).set (by omega)).set (by omega)).set (by omega)).set (by omega)
    · exact grown_set (grown_set (grown_set (grown_set W6.out.2.1 (by omega)) (by omega)) (by omega)) (by omega)
  · by_cases e1 : y = 1
    · have k0 : (y == 0) = false := by simp [e0]
      have k1 : (y == 1) = true := by simp [e1]
      go_wp2_with fail
      refine (c_among g (K + 8) w5.heap.size 3 3 [-1, v + x, v + x + 1] _ (W5.out.1.below (by go_grown)) (by omega) (IntsAt.lit' _ 3 [-1, v + x, v + x + 1] rfl rfl) (by have := W5.out.1.lt; omega) (by omega) (by omega)).mono ?_
      rintro e w6 ⟨⟨t, rfl, ht⟩, hc6, hg6⟩
      have W6 := hid (show Cur w6 g (K + 10) ∧ w.grownBy w6 (some g) ∧ w6.heap[w.heap.size]? = some (.cells #[.int .i64 0, .int .i64 0, .int .i64 0] 25 (0, 0)) ∧ w6.heap[w3.heap.size]? = some (.cells #[.int .i64 (v + x), .int .i64 v, .int .i64 (v + u)] 25 (0, 0)) from
        ⟨hc6, grownBy_trans (grownBy_trans W5.out.2.1 (grown_of_below (by go_grown) _)) hg6, (hg6.block _ (by simp only [World.size_alloc]; omega) (by simp <;> omega)).trans (by rw [Below.heap_alloc _ _ _ (by omega)]; exact W5.out.2.2.1), (hg6.block _ (by simp only [World.size_alloc]; omega) (by simp <;> omega)).trans (by rw [Below.heap_alloc _ _ _ (by omega)]; exact W5.out.2.2.2)⟩)
      have hz6 := hg6.size
      simp only [World.size_alloc] at hz6
      clear hc6 hg6 W5 m0 m1 m2 q0 q1 q2 fa fb ht
      obtain ⟨m0, m1, m2⟩ := three_of W6.out.2.2.2
      obtain ⟨q0, q1, q2⟩ := three_of W6.out.2.2.1
      have fa := fun j => frozen_of_row w6 w3.heap.size j _ _ W6.out.2.2.2
      have fb := fun j => frozen_of_row w6 w.heap.size j _ _ W6.out.2.2.1
      have hzz : w.heap.size < w6.heap.size := by omega
      have hzz3 : w3.heap.size < w6.heap.size := by omega
      go_wp2
      refine bodyPost_ret (v := .agg #[.int .i64 (v + x), .int .i64 t, .int .i64 (v + u)]) (by simp [results, Try.results70, go_sem, *]) rfl ⟨⟨_, _, _, rfl⟩, ?_, ?_⟩
      · exact ((((W6.out.1.le (by omega)).set (by omega)).set (by omega)).set (by omega)).set (by omega)
      · exact grown_set (grown_set (grown_set (grown_set W6.out.2.1 (by omega)) (by omega)) (by omega)) (by omega)
    · have k0 : (y == 0) = false := by simp [e0]
      have k1 : (y == 1) = false := by simp [e1]
      have hzz : w.heap.size < w5.heap.size := by omega
      have hzz3 : w3.heap.size < w5.heap.size := by omega
      go_wp2_with fail
      refine bodyPost_ret (v := .agg #[.int .i64 (v + x), .int .i64 v, .int .i64 (v + u)]) (by simp [results, Try.results70, go_sem, *]) rfl ⟨⟨_, _, _, rfl⟩, ?_, ?_⟩
      · exact (((W5.out.1.le (by omega)).set (by omega)).set (by omega)).set (by omega)
      · exact grown_set (grown_set (grown_set W5.out.2.1 (by omega)) (by omega)) (by omega)

set_option maxHeartbeats 4000000 in
theorem c_day (g K : Nat) (w : World) (h : Cur w g K) (hK : K ≤ 10000000000) :
    Calls Try.prog 71 #[.pointer (some ⟨g, 0, none⟩)] w fun e w' => (∃ (a1 a2 : Option Addr) (n1 n2 c1 c2 : Nat) (l1 l2 : List Int), e = .returned (.tuple #[.slice a1 n1 c1, .slice a2 n2 c2]) ∧ OwnI w' w.heap.size (.slice a1 n1 c1) l1 ∧ OwnI w' w.heap.size (.slice a2 n2 c2) l2 ∧ n1 ≤ 14 ∧ n2 ≤ 14) ∧ Cur w' g (K + 100) ∧ w.grownBy w' (some g) := by
  have H := hid h
  have hgz := h.lt
  clear h
  go_enter Try.func71, Try.ntmps71
  go_wp2_with fail
  refine (c_among g K w.heap.size 6 6 [1, 2, 3, 4, 6, 8] _ (H.out.below (by go_grown)) (by omega) (IntsAt.lit' _ 3 [1, 2, 3, 4, 6, 8] rfl rfl) (by omega) (by omega) (by omega)).mono ?_
  rintro e w1 ⟨⟨v, rfl, hv⟩, hc1, hg1⟩
  have hv1 : 0 ≤ v ∧ v ≤ 13 := by
    simp only [List.mem_cons, List.not_mem_nil, or_false] at hv
    omega
  have W1 := hid (show Cur w1 g (K + 2) ∧ w.grownBy w1 (some g) from ⟨hc1, grownBy_trans (grown_of_below (by go_grown) _) hg1⟩)
  clear hc1 hg1 hv
  go_wp2_with fail
  refine (c_one g (K + 2) 20 _ W1.out.1 (by omega) (by omega)).mono ?_
  rintro e w2 ⟨⟨b, rfl⟩, hc2, hg2⟩
  have W2 := hid (show Cur w2 g (K + 4) ∧ w.grownBy w2 (some g) from ⟨hc2, grownBy_trans W1.out.2 hg2⟩)
  clear hc2 hg2 W1
  cases b
  · obtain ⟨n, rfl⟩ : ∃ n : Nat, v = n := ⟨v.toNat, by omega⟩
    go_wp2_with fail
    refine (c_volumes g (K + 4) n _ W2.out.1 (by omega) (by omega)).mono ?_
    rintro e w4 ⟨⟨a1, c1, l1, rfl, ho4⟩, hc4, hg4⟩
    have W4 := hid (show Cur w4 g (K + 4 + 40) ∧ w.grownBy w4 (some g) ∧ OwnI w4 w.heap.size (.slice a1 n c1) l1 from ⟨hc4, grownBy_trans W2.out.2 hg4, ho4.mono W2.out.2.size⟩)
    clear hc4 hg4 ho4
    go_wp2_with fail
    refine (c_one g (K + 4 + 40) 24 _ W4.out.1 (by omega) (by omega)).mono ?_
    rintro e w5 ⟨⟨b, rfl⟩, hc5, hg5⟩
    have W5 := hid (show Cur w5 g (K + 4 + 42) ∧ w.grownBy w5 (some g) ∧ OwnI w5 w.heap.size (.slice a1 n c1) l1 from ⟨hc5, grownBy_trans W4.out.2.1 hg5, W4.out.2.2.kept hg5 (ownI_ne W4.out.2.2 hgz)⟩)
    clear hc5 hg5
    cases b
    · go_wp2_with fail
      refine (c_volumes g (K + 4 + 42) n _ W5.out.1 (by omega) (by omega)).mono ?_
      rintro e w6 ⟨⟨a2, c2, l2, rfl, ho6⟩, hc6, hg6⟩
      have W6 := hid (show Cur w6 g (K + 4 + 82) ∧ w.grownBy w6 (some g) ∧ OwnI w6 w.heap.size (.slice a1 n c1) l1 ∧ OwnI w6 w.heap.size (.slice a2 n c2) l2 from ⟨hc6, grownBy_trans W5.out.2.1 hg6, W5.out.2.2.kept hg6 (ownI_ne W5.out.2.2 hgz), ho6.mono W5.out.2.1.size⟩)
      clear hc6 hg6 ho6
      go_wp2
      go_ret2
      exact ⟨⟨_, _, _, _, _, _, _, _, rfl, W6.out.2.2.1, W6.out.2.2.2, by omega, by omega⟩, W6.out.1.le (by omega), W6.out.2.1⟩
    · have hw9 : IntKind.i64.wrap ((n : Int) + 1) = ((n + 1 : Nat) : Int) := by rw [IntWalk.i64_in _ (by omega)]; omega
      go_wp2_with fail
      refine (c_volumes g (K + 4 + 42) (n + 1) _ W5.out.1 (by omega) (by omega)).mono ?_
      rintro e w6 ⟨⟨a2, c2, l2, rfl, ho6⟩, hc6, hg6⟩
      have W6 := hid (show Cur w6 g (K + 4 + 82) ∧ w.grownBy w6 (some g) ∧ OwnI w6 w.heap.size (.slice a1 n c1) l1 ∧ OwnI w6 w.heap.size (.slice a2 (n + 1) c2) l2 from ⟨hc6, grownBy_trans W5.out.2.1 hg6, W5.out.2.2.kept hg6 (ownI_ne W5.out.2.2 hgz), ho6.mono W5.out.2.1.size⟩)
      clear hc6 hg6 ho6
      go_wp2
      go_ret2
      exact ⟨⟨_, _, _, _, _, _, _, _, rfl, W6.out.2.2.1, W6.out.2.2.2, by omega, by omega⟩, W6.out.1.le (by omega), W6.out.2.1⟩
  · go_wp2_with fail
    refine (c_among g (K + 4) w2.heap.size 3 3 [0, 12, 13] _ (W2.out.1.below (by go_grown)) (by omega) (IntsAt.lit' _ 3 [0, 12, 13] rfl rfl) (by have := W2.out.1.lt; omega) (by omega) (by omega)).mono ?_
    rintro e w3 ⟨⟨u, rfl, hu⟩, hc3, hg3⟩
    have hu1 : 0 ≤ u ∧ u ≤ 13 := by
      simp only [List.mem_cons, List.not_mem_nil, or_false] at hu
      omega
    have W3 := hid (show Cur w3 g (K + 6) ∧ w.grownBy w3 (some g) from ⟨hc3, grownBy_trans (grownBy_trans W2.out.2 (grown_of_below (by go_grown) _)) hg3⟩)
    clear hc3 hg3 hu W2
    obtain ⟨n, rfl⟩ : ∃ n : Nat, u = n := ⟨u.toNat, by omega⟩
    go_wp2_with fail
    refine (c_volumes g (K + 6) n _ W3.out.1 (by omega) (by omega)).mono ?_
    rintro e w4 ⟨⟨a1, c1, l1, rfl, ho4⟩, hc4, hg4⟩
    have W4 := hid (show Cur w4 g (K + 6 + 40) ∧ w.grownBy w4 (some g) ∧ OwnI w4 w.heap.size (.slice a1 n c1) l1 from ⟨hc4, grownBy_trans W3.out.2 hg4, ho4.mono W3.out.2.size⟩)
    clear hc4 hg4 ho4
    go_wp2_with fail
    refine (c_one g (K + 6 + 40) 24 _ W4.out.1 (by omega) (by omega)).mono ?_
    rintro e w5 ⟨⟨b, rfl⟩, hc5, hg5⟩
    have W5 := hid (show Cur w5 g (K + 6 + 42) ∧ w.grownBy w5 (some g) ∧ OwnI w5 w.heap.size (.slice a1 n c1) l1 from ⟨hc5, grownBy_trans W4.out.2.1 hg5, W4.out.2.2.kept hg5 (ownI_ne W4.out.2.2 hgz)⟩)
    clear hc5 hg5
    cases b
    · go_wp2_with fail
      refine (c_volumes g (K + 6 + 42) n _ W5.out.1 (by omega) (by omega)).mono ?_
      rintro e w6 ⟨⟨a2, c2, l2, rfl, ho6⟩, hc6, hg6⟩
      have W6 := hid (show Cur w6 g (K + 6 + 82) ∧ w.grownBy w6 (some g) ∧ OwnI w6 w.heap.size (.slice a1 n c1) l1 ∧ OwnI w6 w.heap.size (.slice a2 n c2) l2 from ⟨hc6, grownBy_trans W5.out.2.1 hg6, W5.out.2.2.kept hg6 (ownI_ne W5.out.2.2 hgz), ho6.mono W5.out.2.1.size⟩)
      clear hc6 hg6 ho6
      go_wp2
      go_ret2
      exact ⟨⟨_, _, _, _, _, _, _, _, rfl, W6.out.2.2.1, W6.out.2.2.2, by omega, by omega⟩, W6.out.1.le (by omega), W6.out.2.1⟩
    · have hw9 : IntKind.i64.wrap ((n : Int) + 1) = ((n + 1 : Nat) : Int) := by rw [IntWalk.i64_in _ (by omega)]; omega
      go_wp2_with fail
      refine (c_volumes g (K + 6 + 42) (n + 1) _ W5.out.1 (by omega) (by omega)).mono ?_
      rintro e w6 ⟨⟨a2, c2, l2, rfl, ho6⟩, hc6, hg6⟩
      have W6 := hid (show Cur w6 g (K + 6 + 82) ∧ w.grownBy w6 (some g) ∧ OwnI w6 w.heap.size (.slice a1 n c1) l1 ∧ OwnI w6 w.heap.size (.slice a2 (n + 1) c2) l2 from ⟨hc6, grownBy_trans W5.out.2.1 hg6, W5.out.2.2.kept hg6 (ownI_ne W5.out.2.2 hgz), ho6.mono W5.out.2.1.size⟩)
      clear hc6 hg6 ho6
      go_wp2
      go_ret2
      exact ⟨⟨_, _, _, _, _, _, _, _, rfl, W6.out.2.2.1, W6.out.2.2.2, by omega, by omega⟩, W6.out.1.le (by omega), W6.out.2.1⟩

/-- Bytes in memory. -/
def BytesAt (w : World) (a : Option Addr) (n : Nat) : Prop := n ≤ 9223372036854775807 ∧ ∀ i, i < n → ∃ (b o : Nat) (v : Int), a = some ⟨b, o, none⟩ ∧ b < w.heap.size ∧ w.cell? ⟨b, o + i, none⟩ = some (.int .u8 v) ∧ 0 ≤ v ∧ v < 256
theorem BytesAt.below {w w' : World} {a : Option Addr} {n : Nat} (h : BytesAt w a n) (hb : Below w.heap.size w w') : BytesAt w' a n :=
  ⟨h.1, fun i hi => by
    obtain ⟨b, o, v, h1, h2, h3, h4⟩ := h.2 i hi
    exact ⟨b, o, v, h1, Nat.lt_of_lt_of_le h2 hb.size, (hb.cell (p := ⟨b, o + i, none⟩) h2).trans h3, h4⟩⟩
theorem Cur.start {w : World} {a : Option Addr} {n c g : Nat} (h : BytesAt w a n) (hg : g = w.heap.size) : Cur (w.alloc (.cells #[.slice a n c, .int .i64 0, .int .u64 0] 80)) g 0 := by
  subst hg
  refine ⟨a, n, c, 0, 0, Nat.le_refl _, h.1, heap_alloc_new _ _, fun i hi => ?_⟩
  obtain ⟨b, o, v, h1, h2, h3, h4⟩ := h.2 i hi
  refine ⟨b, o, v, h1, h2, ?_, h4⟩
  rw [← h3]
  unfold World.cell?
  rw [Below.heap_alloc _ _ _ h2]

set_option maxHeartbeats 4000000 in
theorem s_DrawRunTank (a : Option Addr) (n c : Nat) (w : World) (h : BytesAt w a n) :
    Calls Try.prog 40 #[.slice a n c] w fun e w' => ∃ (x y z : Int) (a1 a2 : Option Addr) (n1 n2 c1 c2 : Nat) (l1 l2 : List Int), e = .returned (.tuple #[.agg #[.int .i64 x, .int .i64 y, .int .i64 z], .slice a1 n1 c1, .slice a2 n2 c2]) ∧ IntsAt w' a1 n1 l1 ∧ IntsAt w' a2 n2 l2 ∧ n1 ≤ 14 ∧ n2 ≤ 14 ∧ Below w.heap.size w w' := by
  have H := hid h
  clear h
  go_enter Try.func40, Try.ntmps40
  go_upto_region 2 with fail
  have C0 := hid (Cur.start (c := c) (H.out.below (by go_grown : Below w.heap.size w (w.alloc (.cells #[.int .i64 0, .int .i64 0, .int .i64 0] 25)))) (show w.heap.size + 1 = (w.alloc (.cells #[.int .i64 0, .int .i64 0, .int .i64 0] 25)).heap.size by simp))
  have B0 : Below w.heap.size w ((w.alloc (.cells #[.int .i64 0, .int .i64 0, .int .i64 0] 25)).alloc (.cells #[.slice a n c, .int .i64 0, .int .u64 0] 80)) := by go_grown
  have T0 := mid_new w (.cells #[.int .i64 0, .int .i64 0, .int .i64 0] 25) (.cells #[.slice a n c, .int .i64 0, .int .u64 0] 80) _ rfl
  have hz0 : w.heap.size + 1 < ((w.alloc (.cells #[.int .i64 0, .int .i64 0, .int .i64 0] 25)).alloc (.cells #[.slice a n c, .int .i64 0, .int .u64 0] 80)).heap.size := by simp
  generalize (w.alloc (.cells #[.int .i64 0, .int .i64 0, .int .i64 0] 25)).alloc (.cells #[.slice a n c, .int .i64 0, .int .u64 0] 80) = w0 at *
  go_wp2_with fail
  refine (c_tank (w.heap.size + 1) 0 _ C0.out (by omega)).mono ?_
  rintro e w1 ⟨⟨x, y, z, rfl⟩, hc1, hg1⟩
  have W1 := hid (show Cur (w1.alloc (.cells #[.int .i64 x, .int .i64 y, .int .i64 z] 25)) (w.heap.size + 1) 40 ∧ Below w.heap.size w (w1.alloc (.cells #[.int .i64 x, .int .i64 y, .int .i64 z] 25)) ∧ (w1.alloc (.cells #[.int .i64 x, .int .i64 y, .int .i64 z] 25)).heap[w.heap.size]? = some (.cells #[.int .i64 0, .int .i64 0, .int .i64 0] 25 (0, 0)) ∧ (w1.alloc (.cells #[.int .i64 x, .int .i64 y, .int .i64 z] 25)).heap[w1.heap.size]? = some (.cells #[.int .i64 x, .int .i64 y, .int .i64 z] 25 (0, 0)) from
    ⟨hc1.below (by go_grown), bstep (B0.grown hg1 B0.size (fun k e => by cases e; omega)) (by go_grown), by rw [Below.heap_alloc _ _ _ (by have := hg1.size; omega)]; exact (hg1.block _ (by omega) (by simp <;> omega)).trans T0, heap_alloc_new _ _⟩)
  have hz1 := hg1.size
  have hz1' : w1.heap.size < (w1.alloc (.cells #[.int .i64 x, .int .i64 y, .int .i64 z] 25)).heap.size := by simp
  clear hc1 hg1 B0 T0 C0
  go_upto_region 3 with fail
  generalize w1.alloc (.cells #[.int .i64 x, .int .i64 y, .int .i64 z] 25) = w2 at *
  go_wp2_with fail
  refine (c_day (w.heap.size + 1) 40 _ W1.out.1 (by omega)).mono ?_
  rintro e w3 ⟨⟨a1, a2, n1, n2, c1, c2, l1, l2, rfl, ho1, ho2, h1, h2⟩, hc3, hg3⟩
  have W3 := hid (show OwnI w3 w2.heap.size (.slice a1 n1 c1) l1 ∧ OwnI w3 w2.heap.size (.slice a2 n2 c2) l2 ∧ Below w.heap.size w w3 ∧ w3.heap[w.heap.size]? = some (.cells #[.int .i64 0, .int .i64 0, .int .i64 0] 25 (0, 0)) ∧ w3.heap[w1.heap.size]? = some (.cells #[.int .i64 x, .int .i64 y, .int .i64 z] 25 (0, 0)) from
    ⟨ho1, ho2, W1.out.2.1.grown hg3 W1.out.2.1.size (fun k e => by cases e; omega), (hg3.block _ (by omega) (by simp <;> omega)).trans W1.out.2.2.1, (hg3.block _ hz1' (by simp <;> omega)).trans W1.out.2.2.2⟩)
  have hz3 := hg3.size
  clear ho1 ho2 hc3 hg3 W1
  obtain ⟨m0, m1, m2⟩ := three_of W3.out.2.2.2.2
  obtain ⟨q0, q1, q2⟩ := three_of W3.out.2.2.2.1
  have fa := fun j => frozen_of_row w3 w.heap.size j _ _ W3.out.2.2.2.1
  have hne : ¬ w.heap.size = w1.heap.size := by omega
  have hne2 : ¬ w1.heap.size = w.heap.size := by omega
  have hzz : w.heap.size < w3.heap.size := by omega
  have hzz3 : w1.heap.size < w3.heap.size := by omega
  go_wp2
  refine bodyPost_ret (v := .tuple #[.agg #[.int .i64 x, .int .i64 y, .int .i64 z], .slice a1 n1 c1, .slice a2 n2 c2]) (by simp [results, Try.results40, go_sem, *]) rfl ⟨x, y, z, a1, a2, n1, n2, c1, c2, l1, l2, rfl, ?_, ?_, h1, h2, ?_⟩
  · exact (((W3.out.1.far (by show w.heap.size < _; omega)).far (by show w.heap.size < _; omega)).far (by show w.heap.size < _; omega)).at
  · exact (((W3.out.2.1.far (by show w.heap.size < _; omega)).far (by show w.heap.size < _; omega)).far (by show w.heap.size < _; omega)).at
  · exact ((W3.out.2.2.1.setCell (Nat.le_refl _) _).setCell (Nat.le_refl _) _).setCell (Nat.le_refl _) _

set_option maxHeartbeats 4000000 in
theorem s_DrawStepTank (a : Option Addr) (n c : Nat) (w : World) (h : BytesAt w a n) :
    Calls Try.prog 43 #[.slice a n c] w fun e w' => ∃ (x y z u v : Int), e = .returned (.tuple #[.agg #[.int .i64 x, .int .i64 y, .int .i64 z], .int .i64 u, .int .i64 v]) ∧ Below w.heap.size w w' ∧ u ∈ [0, 3, 10, 30, 100, 101, -1] ∧ v ∈ [0, 3, 10, 30, 100, 101, -1] := by
  have H := hid h
  clear h
  go_enter Try.func43, Try.ntmps43
  go_upto_region 2 with fail
  have C0 := hid (Cur.start (c := c) (H.out.below (by go_grown : Below w.heap.size w (w.alloc (.cells #[.int .i64 0, .int .i64 0, .int .i64 0] 25)))) (show w.heap.size + 1 = (w.alloc (.cells #[.int .i64 0, .int .i64 0, .int .i64 0] 25)).heap.size by simp))
  have B0 : Below w.heap.size w ((w.alloc (.cells #[.int .i64 0, .int .i64 0, .int .i64 0] 25)).alloc (.cells #[.slice a n c, .int .i64 0, .int .u64 0] 80)) := by go_grown
  have T0 := mid_new w (.cells #[.int .i64 0, .int .i64 0, .int .i64 0] 25) (.cells #[.slice a n c, .int .i64 0, .int .u64 0] 80) _ rfl
  have hz0 : w.heap.size + 1 < ((w.alloc (.cells #[.int .i64 0, .int .i64 0, .int .i64 0] 25)).alloc (.cells #[.slice a n c, .int .i64 0, .int .u64 0] 80)).heap.size := by simp
  generalize (w.alloc (.cells #[.int .i64 0, .int .i64 0, .int .i64 0] 25)).alloc (.cells #[.slice a n c, .int .i64 0, .int .u64 0] 80) = w0 at *
  go_wp2_with fail
  refine (c_tank (w.heap.size + 1) 0 _ C0.out (by omega)).mono ?_
  rintro e w1 ⟨⟨x, y, z, rfl⟩, hc1, hg1⟩
  have W1 := hid (show Cur w1 (w.heap.size + 1) 40 ∧ Below w.heap.size w w1 ∧ w1.heap[w.heap.size]? = some (.cells #[.int .i64 0, .int .i64 0, .int .i64 0] 25 (0, 0)) from
    ⟨hc1, B0.grown hg1 B0.size (fun k e => by cases e; omega), (hg1.block _ (by omega) (by simp <;> omega)).trans T0⟩)
  have hz1 : w.heap.size + 1 < w1.heap.size := by have := hg1.size; omega
  clear hc1 hg1 B0 T0 C0
  go_wp2_with fail
  refine (c_among (w.heap.size + 1) 40 w1.heap.size 7 7 [0, 3, 10, 30, 100, 101, -1] _ (W1.out.1.below (by go_grown)) (by omega) (IntsAt.lit' _ 3 [0, 3, 10, 30, 100, 101, -1] rfl rfl) (by have := W1.out.1.lt; omega) (by omega) (by omega)).mono ?_
  rintro e w2 ⟨⟨v2, rfl, hv2⟩, hc, hg⟩
  have W2 := hid (show Cur w2 (w.heap.size + 1) 42 ∧ Below w.heap.size w w2 ∧ w2.heap[w.heap.size]? = some (.cells #[.int .i64 0, .int .i64 0, .int .i64 0] 25 (0, 0)) from
    ⟨hc, (bstep W1.out.2.1 (by go_grown)).grown hg (by have := W1.out.2.1.size; simp <;> omega) (fun k e => by cases e; omega), (hg.block _ (by simp only [World.size_alloc]; omega) (by simp <;> omega)).trans (by rw [Below.heap_alloc _ _ _ (by omega)]; exact W1.out.2.2)⟩)
  have hzz2 : w.heap.size + 1 < w2.heap.size := by have := hg.size; simp only [World.size_alloc] at this; omega
  clear hc hg
  go_wp2_with fail
  refine (c_among (w.heap.size + 1) 42 w2.heap.size 7 7 [0, 3, 10, 30, 100, 101, -1] _ (W2.out.1.below (by go_grown)) (by omega) (IntsAt.lit' _ 3 [0, 3, 10, 30, 100, 101, -1] rfl rfl) (by have := W2.out.1.lt; omega) (by omega) (by omega)).mono ?_
  rintro e w3 ⟨⟨v3, rfl, hv3⟩, hc, hg⟩
  have W3 := hid (show Cur w3 (w.heap.size + 1) 44 ∧ Below w.heap.size w w3 ∧ w3.heap[w.heap.size]? = some (.cells #[.int .i64 0, .int .i64 0, .int .i64 0] 25 (0, 0)) from
    ⟨hc, (bstep W2.out.2.1 (by go_grown)).grown hg (by have := W2.out.2.1.size; simp <;> omega) (fun k e => by cases e; omega), (hg.block _ (by simp only [World.size_alloc]; omega) (by simp <;> omega)).trans (by rw [Below.heap_alloc _ _ _ (by omega)]; exact W2.out.2.2)⟩)
  have hzz3 : w.heap.size + 1 < w3.heap.size := by have := hg.size; simp only [World.size_alloc] at this; omega
  clear hc hg
  obtain ⟨q0, q1, q2⟩ := three_of W3.out.2.2
  have fa := fun j => frozen_of_row w3 w.heap.size j _ _ W3.out.2.2
  have hzz : w.heap.size < w3.heap.size := by omega
  go_wp2
  refine bodyPost_ret (v := .tuple #[.agg #[.int .i64 x, .int .i64 y, .int .i64 z], .int .i64 v2, .int .i64 v3]) (by simp [results, Try.results43, go_sem, *]) rfl ⟨x, y, z, v2, v3, rfl, ?_, hv2, hv3⟩
  exact ((W3.out.2.1.setCell (Nat.le_refl _) _).setCell (Nat.le_refl _) _).setCell (Nat.le_refl _) _

theorem l_vBig (a : Option Addr) (n c : Nat) (w : World) : Calls Try.prog 39 #[.slice a n c] w fun e w' => e = .returned (.bool (decide (65536 < n))) ∧ w = w' := by
  go_enter Try.func39, Try.ntmps39
  go_wp2
  go_ret
  exact ⟨ret_bool (by simp <;> omega), rfl⟩

end Go.Proofs.Ytbeeonpefmdkeaa
