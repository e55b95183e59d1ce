/-
  Curves: the head at a flow and the flow at a head.
-/
import Derived.Test.YtpcbeapajlchgaaCurveA
import Derived.Test.YtpcbeapajlchgaaNums
set_option linter.unusedVariables false
set_option linter.unusedSimpArgs false
namespace Go.Proofs.Ytpcbeapajlchgaa
open Go.RowKit

theorem pt_flow {l : List Pt} {n k : Nat} (h : goodCurve l = true) (hn : l.length = n) (hk : k < n) : (0 ≤ (pt l k).1 ∧ (pt l k).1 ≤ 1000) ∧ (0 ≤ (pt l k).2 ∧ (pt l k).2 ≤ 1000) := by
  simp only [goodCurve, Bool.and_eq_true, List.all_eq_true, List.mem_range] at h
  have := h.2 k (by omega)
  simp only [okAt, Bool.and_eq_true] at this
  exact ⟨inR_iff.1 this.1.1, inR_iff.1 this.1.2⟩
theorem pt_step {l : List Pt} {n k : Nat} (h : goodCurve l = true) (hn : l.length = n) (hk : k < n) (h0 : k ≠ 0) : (pt l (k - 1)).1 < (pt l k).1 ∧ (pt l k).2 < (pt l (k - 1)).2 := by
  simp only [goodCurve, Bool.and_eq_true, List.all_eq_true, List.mem_range] at h
  have := h.2 k (by omega)
  simp only [okAt, Bool.and_eq_true, Bool.or_eq_true, decide_eq_true_eq] at this
  rcases this.2 with h1 | h1
  · exact absurd h1 h0
  · exact h1
theorem good_len {l : List Pt} {n : Nat} (h : goodCurve l = true) (hn : l.length = n) : 2 ≤ n ∧ n ≤ 6 := by
  simp only [goodCurve, Bool.and_eq_true] at h
  have := inR_iff.1 h.1.1
  omega
theorem good_first {l : List Pt} (h : goodCurve l = true) : (pt l 0).1 = 0 := by
  simp only [goodCurve, Bool.and_eq_true, decide_eq_true_eq] at h
  exact h.1.2

/-- The point k is the first one, behind the first, at which a test holds. -/
def Seg (n : Nat) (p : Nat → Prop) (k : Nat) : Prop := 1 ≤ k ∧ k < n ∧ (∀ j, 1 ≤ j → j < k → ¬ p j) ∧ p k
theorem seg_exists {n : Nat} {p : Nat → Prop} (h2 : 2 ≤ n) (h : p (n - 1)) : ∃ k, Seg n p k := by
  have key : ∀ m, m < n → 1 ≤ m → p m → ∃ k, Seg n p k := by
    intro m
    induction m using Nat.strongRecOn with
    | _ m ih =>
      intro hm h1 hp
      by_cases hq : ∃ j, 1 ≤ j ∧ j < m ∧ p j
      · obtain ⟨j, h3, h4, h5⟩ := hq
        exact ih j h4 (by omega) h3 h5
      · exact ⟨m, h1, hm, fun j h3 h4 h5 => hq ⟨j, h3, h4, h5⟩, hp⟩
  exact key (n - 1) (by omega) (by omega) h

theorem pair_new (W : World) (x y : Obj) (g : Nat) (hg : g = W.heap.size) : Below g W ((W.alloc x).alloc y).drew ∧ ((W.alloc x).alloc y).drew.heap[g]? = some x ∧ ((W.alloc x).alloc y).drew.heap[g + 1]? = some y := by
  subst hg
  refine ⟨(((Below.refl _ _).alloc (Nat.le_refl _) _).alloc (by simp) _).drew, ?_, ?_⟩
  · rw [((Below.refl (W.heap.size + 1) (W.alloc x)).alloc (by simp) y).drew.block _ (by omega)]
    exact heap_alloc_new _ _
  · have e := heap_alloc_new (W.alloc x) y
    simp only [World.size_alloc] at e
    exact e

/-- The head at a flow, between the points k - 1 and k; the flow at a head. -/
def hdN (l : List Pt) (k : Nat) (q : Int) : Int := (pt l (k - 1)).2 * ((pt l k).1 - q) + (pt l k).2 * (q - (pt l (k - 1)).1)
def hdD (l : List Pt) (k : Nat) : Int := (pt l k).1 - (pt l (k - 1)).1
def flN (l : List Pt) (k : Nat) (q : Int) : Int := (pt l (k - 1)).1 * (q - (pt l k).2) + (pt l k).1 * ((pt l (k - 1)).2 - q)
def flD (l : List Pt) (k : Nat) : Int := (pt l (k - 1)).2 - (pt l k).2


theorem hdN_eq (l : List Pt) (k : Nat) (q : Int) : hdN l k q = (pt l (k - 1)).2 * ((pt l k).1 - (pt l (k - 1)).1) - ((pt l (k - 1)).2 - (pt l k).2) * (q - (pt l (k - 1)).1) := by unfold hdN; grind
theorem flN_eq (l : List Pt) (k : Nat) (q : Int) : flN l k q = (pt l (k - 1)).1 * ((pt l (k - 1)).2 - (pt l k).2) + ((pt l k).1 - (pt l (k - 1)).1) * ((pt l (k - 1)).2 - q) := by unfold flN; grind

set_option maxHeartbeats 4000000 in
theorem i_headAt (a : Option Addr) (n c k : Nat) (q : Int) (l : List Pt) (w : World) (h : PAt w a n l) (hg : goodCurve l = true) (hk : Seg n (fun j => q ≤ (pt l j).1) k) (hq : 0 ≤ q ∧ q ≤ 1000) :
    Calls Try.prog 63 #[.slice a n c, .int .i64 q] w fun e w' => e = .returned (.agg #[.int .i64 (lowN (hdN l k q) (hdD l k)), .int .i64 (lowD (hdN l k q) (hdD l k))]) ∧ Below w.heap.size w w' := by
  have H := hid h
  have HL := hid h.1
  have HG := hid hg
  obtain ⟨hk1, hkn, hks, hkp⟩ := hk
  have HK := hid hks
  obtain ⟨_, hn6⟩ := good_len hg h.1
  clear h hg hks
  go_enter Try.func63, Try.ntmps63
  go_wp2
  go_loopg [5] (k - 1) (fun g i wr => ∃ j : Nat, 1 ≤ j ∧ j ≤ k ∧ g = k - j ∧ i = .int .i64 j ∧ wr = w.alloc (.cells #[.int .i64 0, .int .i64 0] 74))
  case atStart => exact ⟨1, by omega, hk1, rfl, rfl, rfl⟩
  case round =>
    obtain ⟨j, hj1, hjk, rfl, rfl, rfl⟩ := hrel
    obtain ⟨b0, off0, rfl, hbw, x0, x1⟩ := PAt.get H.out j (by omega)
    by_cases hlt : j < k
    · have hf : (pt l j).1 < q := by have := HK.out j hj1 hlt; omega
      go_wp2
      go_roundg (k - (j + 1))
      case rel => exact ⟨j + 1, by omega, by omega, rfl, by go_num, rfl⟩
      case measure => omega
    · obtain rfl : j = k := by omega
      have hf : ¬ ((pt l j).1 < q) := by omega
      have hw : IntKind.i64.wrap ((j : Int) - 1) = ((j - 1 : Nat) : Int) := (IntWalk.i64_in _ (by omega)).trans (by omega)
      have hj2 : j - 1 < n := by omega
      obtain ⟨b2, off2, e2, _, y0, y1⟩ := PAt.get H.out (j - 1) (by omega)
      cases e2
      have hz1 : b0 < w.heap.size + 1 := by omega
      have hz2 : b0 < w.heap.size + 1 + 1 := by omega
      go_upto_region 4 with fail
      go_cut [6, 7] (fun s6 s7 wx => ∃ g6 g7 : Nat, s6 = .pointer (some ⟨g6, 0, none⟩) ∧ s7 = .pointer (some ⟨g7, 0, none⟩) ∧ Hid (Below (w.heap.size + 1) (w.alloc (.cells #[.int .i64 0, .int .i64 0] 74)) wx ∧ wx.heap[g6]? = some (.cells #[.int .i64 (pt l (j - 1)).1, .int .i64 (pt l (j - 1)).2] 52 (0, 0)) ∧ wx.heap[g7]? = some (.cells #[.int .i64 (pt l j).1, .int .i64 (pt l j).2] 52 (0, 0))))
      case first =>
        go_region_with (fail)
        all_goals (go_wp2_with fail; go_meet)
        all_goals first
          | (refine ⟨w.heap.size + 1, w.heap.size + 1 + 1, rfl, rfl, ?_⟩; obtain ⟨r1, r2, r3⟩ := pair_new (w.alloc (.cells #[.int .i64 0, .int .i64 0] 74)) _ _ (w.heap.size + 1) (by simp); exact ⟨r1, r2, r3⟩)
          | (refine ⟨w.heap.size + 1 + 1, w.heap.size + 1, rfl, rfl, ?_⟩; obtain ⟨r1, r2, r3⟩ := pair_new (w.alloc (.cells #[.int .i64 0, .int .i64 0] 74)) _ _ (w.heap.size + 1) (by simp); exact ⟨r1, r3, r2⟩)
      case rest =>
        obtain ⟨g6, g7, rfl, rfl, hx⟩ := hcut
        clear x0 x1 y0 y1 hz1 hz2 hw hbw hj2
        obtain ⟨hB, h6, h7⟩ := hx.out
        have T0 : wc.heap[w.heap.size]? = some (.cells #[.int .i64 0, .int .i64 0] 74 (0, 0)) := by rw [hB.block _ (by omega)]; exact heap_alloc_new _ _
        have hz6 := (Array.getElem?_eq_some_iff.1 h6).1
        have hz7 := (Array.getElem?_eq_some_iff.1 h7).1
        have hz0 := (Array.getElem?_eq_some_iff.1 T0).1
        have HB : Hid (Below w.heap.size w wc) := hid ((((Below.refl _ _).alloc (Nat.le_refl _) _)).trans (hB.mono (by omega)))
        have m60 := cell_of_row wc _ 0 _ _ (0, 0) h6
        have m61 := cell_of_row wc _ 1 _ _ (0, 0) h6
        have m70 := cell_of_row wc _ 0 _ _ (0, 0) h7
        have m71 := cell_of_row wc _ 1 _ _ (0, 0) h7
        clear hx h6 h7
        have hB := hid hB
        have T0 := hid T0
        obtain ⟨p1, p2⟩ := pt_flow HG.out HL.out (k := j - 1) (by omega)
        obtain ⟨p3, p4⟩ := pt_flow HG.out HL.out (k := j) (by omega)
        obtain ⟨p5, p6⟩ := pt_step HG.out HL.out (k := j) (by omega) (by omega)
        have q1 := mul_in (x := (pt l (j - 1)).2) (y := (pt l j).1 - q) (A := 1000) (B := 1000) (by omega) (by omega)
        have q2 := mul_in (x := (pt l j).2) (y := q - (pt l (j - 1)).1) (A := 1000) (B := 1000) (by omega) (by omega)
        simp only [Int.reduceMul] at q1 q2
        go_wp2_with fail
        refine (i_asPart _ _ _ (by omega) (by omega) (by omega)).mono ?_
        rintro e w2 ⟨rfl, hb⟩
        have T2 := hid ((hb.block w.heap.size hz0).trans T0.out)
        have n0 : w2.cell? ⟨w.heap.size, 0, none⟩ = some (.int .i64 0) := by rw [cell_of_row w2 _ _ _ _ (0, 0) T2.out]; rfl
        have n1 : w2.cell? ⟨w.heap.size, 1, none⟩ = some (.int .i64 0) := by rw [cell_of_row w2 _ _ _ _ (0, 0) T2.out]; rfl
        have f0 := frozen_of_row w2 _ 0 _ _ T2.out
        have f1 := frozen_of_row w2 _ 1 _ _ T2.out
        have hz3 : w.heap.size < w2.heap.size := (Array.getElem?_eq_some_iff.1 T2.out).1
        clear m60 m61 m70 m71
        go_wp2
        have e7 := heap_setCell_same _ _ 1 _ _ (.int .i64 (lowD (hdN l j q) (hdD l j))) (heap_setCell_same w2 _ 0 _ _ (.int .i64 (lowN (hdN l j q) (hdD l j))) T2.out)
        have u0 := cell_of_row _ _ 0 _ _ (0, 0) e7
        have u1 := cell_of_row _ _ 1 _ _ (0, 0) e7
        simp only [hdN, hdD, List.setIfInBounds_toArray, List.set_cons_zero, List.set_cons_succ, List.getElem?_toArray, List.getElem?_cons_zero, List.getElem?_cons_succ] at u0 u1
        refine bodyPost_ret (v := .agg #[.int .i64 (lowN (hdN l j q) (hdD l j)), .int .i64 (lowD (hdN l j q) (hdD l j))]) (by simp [results, Try.results63, go_sem, hdN, hdD, *]) rfl ⟨rfl, ((bstep HB.out hb).setCell (Nat.le_refl _) _).setCell (Nat.le_refl _) _⟩
set_option maxHeartbeats 4000000 in
theorem i_flowAt (a : Option Addr) (n c k : Nat) (q : Int) (l : List Pt) (w : World) (h : PAt w a n l) (hg : goodCurve l = true) (hk : Seg n (fun j => (pt l j).2 ≤ q) k) (hq : 0 ≤ q ∧ q ≤ 1000) :
    Calls Try.prog 60 #[.slice a n c, .int .i64 q] w fun e w' => e = .returned (.agg #[.int .i64 (lowN (flN l k q) (flD l k)), .int .i64 (lowD (flN l k q) (flD l k))]) ∧ Below w.heap.size w w' := by
  have H := hid h
  have HL := hid h.1
  have HG := hid hg
  obtain ⟨hk1, hkn, hks, hkp⟩ := hk
  have HK := hid hks
  obtain ⟨_, hn6⟩ := good_len hg h.1
  clear h hg hks
  go_enter Try.func60, Try.ntmps60
  go_wp2
  go_loopg [5] (k - 1) (fun g i wr => ∃ j : Nat, 1 ≤ j ∧ j ≤ k ∧ g = k - j ∧ i = .int .i64 j ∧ wr = w.alloc (.cells #[.int .i64 0, .int .i64 0] 74))
  case atStart => exact ⟨1, by omega, hk1, rfl, rfl, rfl⟩
  case round =>
    obtain ⟨j, hj1, hjk, rfl, rfl, rfl⟩ := hrel
    obtain ⟨b0, off0, rfl, hbw, x0, x1⟩ := PAt.get H.out j (by omega)
    by_cases hlt : j < k
    · have hf : (pt l j).2 > q := by have := HK.out j hj1 hlt; omega
      go_wp2
      go_roundg (k - (j + 1))
      case rel => exact ⟨j + 1, by omega, by omega, rfl, by go_num, rfl⟩
      case measure => omega
    · obtain rfl : j = k := by omega
      have hf : ¬ ((pt l j).2 > q) := by omega
      have hw : IntKind.i64.wrap ((j : Int) - 1) = ((j - 1 : Nat) : Int) := (IntWalk.i64_in _ (by omega)).trans (by omega)
      have hj2 : j - 1 < n := by omega
      obtain ⟨b2, off2, e2, _, y0, y1⟩ := PAt.get H.out (j - 1) (by omega)
      cases e2
      have hz1 : b0 < w.heap.size + 1 := by omega
      have hz2 : b0 < w.heap.size + 1 + 1 := by omega
      go_upto_region 4 with fail
      go_cut [6, 7] (fun s6 s7 wx => ∃ g6 g7 : Nat, s6 = .pointer (some ⟨g6, 0, none⟩) ∧ s7 = .pointer (some ⟨g7, 0, none⟩) ∧ Hid (Below (w.heap.size + 1) (w.alloc (.cells #[.int .i64 0, .int .i64 0] 74)) wx ∧ wx.heap[g6]? = some (.cells #[.int .i64 (pt l (j - 1)).1, .int .i64 (pt l (j - 1)).2] 52 (0, 0)) ∧ wx.heap[g7]? = some (.cells #[.int .i64 (pt l j).1, .int .i64 (pt l j).2] 52 (0, 0))))
      case first =>
        go_region_with (fail)
        all_goals (go_wp2_with fail; go_meet)
        all_goals first
          | (refine ⟨w.heap.size + 1, w.heap.size + 1 + 1, rfl, rfl, ?_⟩; obtain ⟨r1, r2, r3⟩ := pair_new (w.alloc (.cells #[.int .i64 0, .int .i64 0] 74)) _ _ (w.heap.size + 1) (by simp); exact ⟨r1, r2, r3⟩)
          | (refine ⟨w.heap.size + 1 + 1, w.heap.size + 1, rfl, rfl, ?_⟩; obtain ⟨r1, r2, r3⟩ := pair_new (w.alloc (.cells #[.int .i64 0, .int .i64 0] 74)) _ _ (w.heap.size + 1) (by simp); exact ⟨r1, r3, r2⟩)
      case rest =>
        obtain ⟨g6, g7, rfl, rfl, hx⟩ := hcut
        clear x0 x1 y0 y1 hz1 hz2 hw hbw hj2
        obtain ⟨hB, h6, h7⟩ := hx.out
        have T0 : wc.heap[w.heap.size]? = some (.cells #[.int .i64 0, .int .i64 0] 74 (0, 0)) := by rw [hB.block _ (by omega)]; exact heap_alloc_new _ _
        have hz6 := (Array.getElem?_eq_some_iff.1 h6).1
        have hz7 := (Array.getElem?_eq_some_iff.1 h7).1
        have hz0 := (Array.getElem?_eq_some_iff.1 T0).1
        have HB : Hid (Below w.heap.size w wc) := hid ((((Below.refl _ _).alloc (Nat.le_refl _) _)).trans (hB.mono (by omega)))
        have m60 := cell_of_row wc _ 0 _ _ (0, 0) h6
        have m61 := cell_of_row wc _ 1 _ _ (0, 0) h6
        have m70 := cell_of_row wc _ 0 _ _ (0, 0) h7
        have m71 := cell_of_row wc _ 1 _ _ (0, 0) h7
        clear hx h6 h7
        have hB := hid hB
        have T0 := hid T0
        obtain ⟨p1, p2⟩ := pt_flow HG.out HL.out (k := j - 1) (by omega)
        obtain ⟨p3, p4⟩ := pt_flow HG.out HL.out (k := j) (by omega)
        obtain ⟨p5, p6⟩ := pt_step HG.out HL.out (k := j) (by omega) (by omega)
        have q1 := mul_in (x := (pt l (j - 1)).1) (y := q - (pt l j).2) (A := 1000) (B := 1000) (by omega) (by omega)
        have q2 := mul_in (x := (pt l j).1) (y := (pt l (j - 1)).2 - q) (A := 1000) (B := 1000) (by omega) (by omega)
        simp only [Int.reduceMul] at q1 q2
        go_wp2_with fail
        refine (i_asPart _ _ _ (by omega) (by omega) (by omega)).mono ?_
        rintro e w2 ⟨rfl, hb⟩
        have T2 := hid ((hb.block w.heap.size hz0).trans T0.out)
        have n0 : w2.cell? ⟨w.heap.size, 0, none⟩ = some (.int .i64 0) := by rw [cell_of_row w2 _ _ _ _ (0, 0) T2.out]; rfl
        have n1 : w2.cell? ⟨w.heap.size, 1, none⟩ = some (.int .i64 0) := by rw [cell_of_row w2 _ _ _ _ (0, 0) T2.out]; rfl
        have f0 := frozen_of_row w2 _ 0 _ _ T2.out
        have f1 := frozen_of_row w2 _ 1 _ _ T2.out
        have hz3 : w.heap.size < w2.heap.size := (Array.getElem?_eq_some_iff.1 T2.out).1
        clear m60 m61 m70 m71
        go_wp2
        have e7 := heap_setCell_same _ _ 1 _ _ (.int .i64 (lowD (flN l j q) (flD l j))) (heap_setCell_same w2 _ 0 _ _ (.int .i64 (lowN (flN l j q) (flD l j))) T2.out)
        have u0 := cell_of_row _ _ 0 _ _ (0, 0) e7
        have u1 := cell_of_row _ _ 1 _ _ (0, 0) e7
        simp only [flN, flD, List.setIfInBounds_toArray, List.set_cons_zero, List.set_cons_succ, List.getElem?_toArray, List.getElem?_cons_zero, List.getElem?_cons_succ] at u0 u1
        refine bodyPost_ret (v := .agg #[.int .i64 (lowN (flN l j q) (flD l j)), .int .i64 (lowD (flN l j q) (flD l j))]) (by simp [results, Try.results60, go_sem, flN, flD, *]) rfl ⟨rfl, ((bstep HB.out hb).setCell (Nat.le_refl _) _).setCell (Nat.le_refl _) _⟩
set_option maxHeartbeats 4000000 in
theorem s_l7Head (a : Option Addr) (n c k : Nat) (q : Int) (l : List Pt) (w : World) (h : PAt w a n l) (hg : goodCurve l = true) (hk : Seg n (fun j => q ≤ (pt l j).1) k) (hq : 0 ≤ q ∧ q ≤ 1000) :
    Calls Try.prog 61 #[.slice a n c, .int .i64 q] w fun e w' => e = .returned (.tuple #[.int .i64 (lowN (hdN l k q) (hdD l k)), .int .i64 (lowD (hdN l k q) (hdD l k))]) ∧ Below w.heap.size w w' := by
  have H := hid h
  have HL := hid h.1
  have HG := hid hg
  obtain ⟨hk1, hkn, hks, hkp⟩ := hk
  have HK := hid hks
  obtain ⟨_, hn6⟩ := good_len hg h.1
  clear h hg hks
  go_enter Try.func61, Try.ntmps61
  go_wp2
  go_loopg [6] (k - 1) (fun g i wr => ∃ j : Nat, 1 ≤ j ∧ j ≤ k ∧ g = k - j ∧ i = .int .i64 j ∧ w = wr)
  case atStart => exact ⟨1, by omega, hk1, rfl, rfl, rfl⟩
  case round =>
    obtain ⟨j, hj1, hjk, rfl, rfl, rfl⟩ := hrel
    obtain ⟨b0, off0, rfl, hbw, x0, x1⟩ := PAt.get H.out j (by omega)
    by_cases hlt : j < k
    · have hf : (pt l j).1 < q := by have := HK.out j hj1 hlt; omega
      go_wp2
      go_roundg (k - (j + 1))
      case rel => exact ⟨j + 1, by omega, by omega, rfl, by go_num, rfl⟩
      case measure => omega
    · obtain rfl : j = k := by omega
      have hf : ¬ ((pt l j).1 < q) := by omega
      have hw : IntKind.i64.wrap ((j : Int) - 1) = ((j - 1 : Nat) : Int) := (IntWalk.i64_in _ (by omega)).trans (by omega)
      have hj2 : j - 1 < n := by omega
      obtain ⟨b2, off2, e2, _, y0, y1⟩ := PAt.get H.out (j - 1) (by omega)
      cases e2
      have hz1 : b0 < w.heap.size + 1 := by omega
      have hz2 : b0 < w.heap.size + 1 + 1 := by omega
      go_upto_region 4 with fail
      go_cut [7, 8] (fun s6 s7 wx => ∃ g6 g7 : Nat, s6 = .pointer (some ⟨g6, 0, none⟩) ∧ s7 = .pointer (some ⟨g7, 0, none⟩) ∧ Hid (Below w.heap.size w wx ∧ wx.heap[g6]? = some (.cells #[.int .i64 (pt l (j - 1)).1, .int .i64 (pt l (j - 1)).2] 52 (0, 0)) ∧ wx.heap[g7]? = some (.cells #[.int .i64 (pt l j).1, .int .i64 (pt l j).2] 52 (0, 0))))
      case first =>
        go_region_with (fail)
        all_goals (go_wp2_with fail; go_meet)
        all_goals first
          | (refine ⟨w.heap.size, w.heap.size + 1, rfl, rfl, ?_⟩; obtain ⟨r1, r2, r3⟩ := pair_new w _ _ w.heap.size rfl; exact ⟨r1, r2, r3⟩)
          | (refine ⟨w.heap.size + 1, w.heap.size, rfl, rfl, ?_⟩; obtain ⟨r1, r2, r3⟩ := pair_new w _ _ w.heap.size rfl; exact ⟨r1, r3, r2⟩)
      case rest =>
        obtain ⟨g6, g7, rfl, rfl, hx⟩ := hcut
        clear x0 x1 y0 y1 hz1 hz2 hw hbw hj2
        obtain ⟨hB, h6, h7⟩ := hx.out
        have hz6 := (Array.getElem?_eq_some_iff.1 h6).1
        have hz7 := (Array.getElem?_eq_some_iff.1 h7).1
        have m60 := cell_of_row wc _ 0 _ _ (0, 0) h6
        have m61 := cell_of_row wc _ 1 _ _ (0, 0) h6
        have m70 := cell_of_row wc _ 0 _ _ (0, 0) h7
        have m71 := cell_of_row wc _ 1 _ _ (0, 0) h7
        clear hx h6 h7
        have HB := hid hB
        clear hB
        obtain ⟨p1, p2⟩ := pt_flow HG.out HL.out (k := j - 1) (by omega)
        obtain ⟨p3, p4⟩ := pt_flow HG.out HL.out (k := j) (by omega)
        obtain ⟨p5, p6⟩ := pt_step HG.out HL.out (k := j) (by omega) (by omega)
        have q1 := mul_in (x := (pt l (j - 1)).2) (y := (pt l j).1 - (pt l (j - 1)).1) (A := 1000) (B := 1000) (by omega) (by omega)
        have q2 := mul_in (x := (pt l (j - 1)).2 - (pt l j).2) (y := q - (pt l (j - 1)).1) (A := 1000) (B := 1000) (by omega) (by omega)
        simp only [Int.reduceMul] at q1 q2
        go_wp2_with fail
        refine (s_l3Reduce _ _ _ (by omega) (by omega) (by omega)).mono ?_
        rintro e _ ⟨rfl, m, rfl⟩
        go_wp2
        go_ret2
        refine ⟨?_, below_drewN HB.out _⟩
        show Ending.returned _ = _
        rw [hdN_eq]
        rfl
set_option maxHeartbeats 4000000 in
theorem s_l7Flow (a : Option Addr) (n c k : Nat) (q : Int) (l : List Pt) (w : World) (h : PAt w a n l) (hg : goodCurve l = true) (hk : Seg n (fun j => (pt l j).2 ≤ q) k) (hq : 0 ≤ q ∧ q ≤ 1000) :
    Calls Try.prog 59 #[.slice a n c, .int .i64 q] w fun e w' => e = .returned (.tuple #[.int .i64 (lowN (flN l k q) (flD l k)), .int .i64 (lowD (flN l k q) (flD l k))]) ∧ Below w.heap.size w w' := by
  have H := hid h
  have HL := hid h.1
  have HG := hid hg
  obtain ⟨hk1, hkn, hks, hkp⟩ := hk
  have HK := hid hks
  obtain ⟨_, hn6⟩ := good_len hg h.1
  clear h hg hks
  go_enter Try.func59, Try.ntmps59
  go_wp2
  go_loopg [6] (k - 1) (fun g i wr => ∃ j : Nat, 1 ≤ j ∧ j ≤ k ∧ g = k - j ∧ i = .int .i64 j ∧ w = wr)
  case atStart => exact ⟨1, by omega, hk1, rfl, rfl, rfl⟩
  case round =>
    obtain ⟨j, hj1, hjk, rfl, rfl, rfl⟩ := hrel
    obtain ⟨b0, off0, rfl, hbw, x0, x1⟩ := PAt.get H.out j (by omega)
    by_cases hlt : j < k
    · have hf : (pt l j).2 > q := by have := HK.out j hj1 hlt; omega
      go_wp2
      go_roundg (k - (j + 1))
      case rel => exact ⟨j + 1, by omega, by omega, rfl, by go_num, rfl⟩
      case measure => omega
    · obtain rfl : j = k := by omega
      have hf : ¬ ((pt l j).2 > q) := by omega
      have hw : IntKind.i64.wrap ((j : Int) - 1) = ((j - 1 : Nat) : Int) := (IntWalk.i64_in _ (by omega)).trans (by omega)
      have hj2 : j - 1 < n := by omega
      obtain ⟨b2, off2, e2, _, y0, y1⟩ := PAt.get H.out (j - 1) (by omega)
      cases e2
      have hz1 : b0 < w.heap.size + 1 := by omega
      have hz2 : b0 < w.heap.size + 1 + 1 := by omega
      go_upto_region 4 with fail
      go_cut [7, 8] (fun s6 s7 wx => ∃ g6 g7 : Nat, s6 = .pointer (some ⟨g6, 0, none⟩) ∧ s7 = .pointer (some ⟨g7, 0, none⟩) ∧ Hid (Below w.heap.size w wx ∧ wx.heap[g6]? = some (.cells #[.int .i64 (pt l (j - 1)).1, .int .i64 (pt l (j - 1)).2] 52 (0, 0)) ∧ wx.heap[g7]? = some (.cells #[.int .i64 (pt l j).1, .int .i64 (pt l j).2] 52 (0, 0))))
      case first =>
        go_region_with (fail)
        all_goals (go_wp2_with fail; go_meet)
        all_goals first
          | (refine ⟨w.heap.size, w.heap.size + 1, rfl, rfl, ?_⟩; obtain ⟨r1, r2, r3⟩ := pair_new w _ _ w.heap.size rfl; exact ⟨r1, r2, r3⟩)
          | (refine ⟨w.heap.size + 1, w.heap.size, rfl, rfl, ?_⟩; obtain ⟨r1, r2, r3⟩ := pair_new w _ _ w.heap.size rfl; exact ⟨r1, r3, r2⟩)
      case rest =>
        obtain ⟨g6, g7, rfl, rfl, hx⟩ := hcut
        clear x0 x1 y0 y1 hz1 hz2 hw hbw hj2
        obtain ⟨hB, h6, h7⟩ := hx.out
        have hz6 := (Array.getElem?_eq_some_iff.1 h6).1
        have hz7 := (Array.getElem?_eq_some_iff.1 h7).1
        have m60 := cell_of_row wc _ 0 _ _ (0, 0) h6
        have m61 := cell_of_row wc _ 1 _ _ (0, 0) h6
        have m70 := cell_of_row wc _ 0 _ _ (0, 0) h7
        have m71 := cell_of_row wc _ 1 _ _ (0, 0) h7
        clear hx h6 h7
        have HB := hid hB
        clear hB
        obtain ⟨p1, p2⟩ := pt_flow HG.out HL.out (k := j - 1) (by omega)
        obtain ⟨p3, p4⟩ := pt_flow HG.out HL.out (k := j) (by omega)
        obtain ⟨p5, p6⟩ := pt_step HG.out HL.out (k := j) (by omega) (by omega)
        have q1 := mul_in (x := (pt l (j - 1)).1) (y := (pt l (j - 1)).2 - (pt l j).2) (A := 1000) (B := 1000) (by omega) (by omega)
        have q2 := mul_in (x := (pt l j).1 - (pt l (j - 1)).1) (y := (pt l (j - 1)).2 - q) (A := 1000) (B := 1000) (by omega) (by omega)
        simp only [Int.reduceMul] at q1 q2
        go_wp2_with fail
        refine (s_l3Reduce _ _ _ (by omega) (by omega) (by omega)).mono ?_
        rintro e _ ⟨rfl, m, rfl⟩
        go_wp2
        go_ret2
        refine ⟨?_, below_drewN HB.out _⟩
        show Ending.returned _ = _
        rw [flN_eq]
        rfl

end Go.Proofs.Ytpcbeapajlchgaa
