/-
  Texts of this claim, joined: Nums, CurveS, CurveW0, LawCHeadAt, Calm.
-/
import Derived.Test.YtpcbeapajlchgaaCu1
import Derived.Test.YtpcbeapajlchgaaCu2
import Derived.Test.YtpcbeapajlchgaaCu3
/-
  Numbers: absolute values, the greatest common divisor, fractions in lowest terms.
-/
set_option linter.unusedVariables false
set_option linter.unusedSimpArgs false
namespace Go.Proofs.Ytpcbeapajlchgaa
open Go.RowKit

/-- A number that products are taken of. -/
abbrev fine (x : Int) : Prop := -1152921504606846976 ≤ x ∧ x ≤ 1152921504606846976

theorem i_absOf (x : Int) (w : World) (h : -4611686018427387904 ≤ x ∧ x ≤ 4611686018427387904) : Calls Try.prog 92 #[.int .i64 x] w fun e w' => e = .returned (.int .i64 (max x (-x))) ∧ w = w' := by
  go_enter Try.func92, Try.ntmps92
  go_wp2
  all_goals go_ret
  all_goals exact ⟨ret_int (by omega), rfl⟩
theorem s_l1Most (a b : Int) (w : World) : Calls Try.prog 84 #[.int .i64 a, .int .i64 b] w fun e w' => e = .returned (.int .i64 (max a b)) ∧ w = w' := by
  by_cases h : a > b
  · go_enter Try.func84, Try.ntmps84
    go_wp2
    go_ret
    exact ⟨ret_int (by omega), rfl⟩
  · go_enter Try.func84, Try.ntmps84
    go_wp2
    go_ret
    exact ⟨ret_int (by omega), rfl⟩
theorem s_l1Least (a b : Int) (w : World) : Calls Try.prog 69 #[.int .i64 a, .int .i64 b] w fun e w' => e = .returned (.int .i64 (min a b)) ∧ w = w' := by
  by_cases h : a < b
  · go_enter Try.func69, Try.ntmps69
    go_wp2
    go_ret
    exact ⟨ret_int (by omega), rfl⟩
  · go_enter Try.func69, Try.ntmps69
    go_wp2
    go_ret
    exact ⟨ret_int (by omega), rfl⟩

/-- The greatest common divisor. -/
def gd (a b : Int) : Int := (Nat.gcd a.natAbs b.natAbs : Nat)
theorem max_abs (x : Int) : max x (-x) = (x.natAbs : Int) := by omega
theorem gd_pos {a b : Int} (h : 0 < b) : 0 < gd a b := by
  unfold gd
  have : 0 < Nat.gcd a.natAbs b.natAbs := Nat.gcd_pos_of_pos_right _ (by omega)
  omega
theorem gcd_step (x y : Nat) (h : y ≠ 0) : Nat.gcd y (x % y) = Nat.gcd x y := by
  rw [Nat.gcd_comm x y, Nat.gcd_rec y x, Nat.gcd_comm]

set_option maxHeartbeats 1000000 in
theorem i_gcdOf (a b : Int) (w : World) (ha : fine a) (hb : fine b) : Calls Try.prog 89 #[.int .i64 a, .int .i64 b] w fun e w' => e = .returned (.int .i64 (gd a b)) ∧ ∃ m, w' = w.drewN m := by
  have ea := max_abs a
  have eb := max_abs b
  have la : a.natAbs ≤ 1152921504606846976 := by omega
  have lb : b.natAbs ≤ 1152921504606846976 := by omega
  go_enter Try.func89, Try.ntmps89
  go_wp2_with fail
  refine (i_absOf _ _ (by omega)).mono ?_
  rintro e _ ⟨rfl, rfl⟩
  go_wp2_with fail
  refine (i_absOf _ _ (by omega)).mono ?_
  rintro e _ ⟨rfl, rfl⟩
  go_wp2
  go_loopw [0, 1] (fun s0 s1 wr => ∃ x y t : Nat, s0 = .int .i64 x ∧ s1 = .int .i64 y ∧ x ≤ 1152921504606846976 ∧ y ≤ 1152921504606846976 ∧ Hid (Nat.gcd x y = Nat.gcd a.natAbs b.natAbs) ∧ wr = w.drewN t) (fun _ s1 _ => (intOf s1).toNat)
  case atStart => exact ⟨a.natAbs, b.natAbs, 0, rfl, rfl, la, lb, rfl, rfl⟩
  case round =>
    obtain ⟨x, y, t, rfl, rfl, hx, hy, hg, rfl⟩ := hrel
    by_cases h0 : y = 0
    · subst h0
      go_wp2
      go_ret
      refine ⟨ret_int ?_, t, rfl⟩
      rw [gd, ← hg.out, Nat.gcd_zero_right]
    · go_wp2
      go_quiet (fail)
      go_wp2
      go_roundw
      case rel => exact ⟨y, x % y, t + nq, rfl, by rw [Int.natCast_emod], hy, by have := Nat.mod_lt x (Nat.pos_of_ne_zero h0); omega, by rw [gcd_step _ _ h0]; exact hg, by rw [World.drewN_drewN]⟩
      case measure =>
        have := Nat.mod_lt x (Nat.pos_of_ne_zero h0)
        simp only [intOf]
        rw [← Int.natCast_emod, Int.toNat_natCast, Int.toNat_natCast]
        exact this

set_option maxHeartbeats 1000000 in
theorem s_l3Common (a b : Int) (w : World) (ha : fine a) (hb : fine b) : Calls Try.prog 88 #[.int .i64 a, .int .i64 b] w fun e w' => e = .returned (.int .i64 (gd a b)) ∧ ∃ m, w' = w.drewN m := by
  have ea := max_abs a
  have eb := max_abs b
  have la : a.natAbs ≤ 1152921504606846976 := by omega
  have lb : b.natAbs ≤ 1152921504606846976 := by omega
  go_enter Try.func88, Try.ntmps88
  go_wp2_with fail
  refine (s_l1Most _ _ _).mono ?_
  rintro e _ ⟨rfl, rfl⟩
  go_wp2_with fail
  refine (s_l1Most _ _ _).mono ?_
  rintro e _ ⟨rfl, rfl⟩
  go_wp2
  go_loopw [0, 1] (fun s0 s1 wr => ∃ x y t : Nat, s0 = .int .i64 x ∧ s1 = .int .i64 y ∧ x ≤ 1152921504606846976 ∧ y ≤ 1152921504606846976 ∧ Hid (Nat.gcd x y = Nat.gcd a.natAbs b.natAbs) ∧ wr = w.drewN t) (fun _ s1 _ => (intOf s1).toNat)
  case atStart => exact ⟨a.natAbs, b.natAbs, 0, rfl, rfl, la, lb, rfl, rfl⟩
  case round =>
    obtain ⟨x, y, t, rfl, rfl, hx, hy, hg, rfl⟩ := hrel
    by_cases h0 : y = 0
    · subst h0
      go_wp2
      go_ret
      refine ⟨ret_int ?_, t, rfl⟩
      rw [gd, ← hg.out, Nat.gcd_zero_right]
    · go_wp2
      go_roundw
      case rel => exact ⟨y, x % y, t, rfl, by rw [Int.natCast_emod], hy, by have := Nat.mod_lt x (Nat.pos_of_ne_zero h0); omega, by rw [gcd_step _ _ h0]; exact hg, rfl⟩
      case measure =>
        have := Nat.mod_lt x (Nat.pos_of_ne_zero h0)
        simp only [intOf]
        rw [← Int.natCast_emod, Int.toNat_natCast, Int.toNat_natCast]
        exact this

/-- The parts of a fraction in lowest terms. -/
def lowN (a b : Int) : Int := a.tdiv (gd a b)
def lowD (a b : Int) : Int := b / gd a b
theorem gd_dvd (a b : Int) : gd a b ∣ b := by
  unfold gd
  exact Int.ofNat_dvd_left.2 (Nat.gcd_dvd_right _ _)
theorem lowD_pos {a b : Int} (h : 0 < b) : 0 < lowD a b := Int.ediv_pos_of_pos_of_dvd h (by have := gd_pos (a := a) h; omega) (gd_dvd a b)
theorem lowD_le {a b : Int} (h : 0 < b) : lowD a b ≤ b := Int.ediv_le_self _ (by omega)
theorem gd_ge {a b : Int} (h : 0 < b) : 1 ≤ gd a b := by have := gd_pos (a := a) h; omega
theorem lowN_abs {a b : Int} (h : 0 < b) : (lowN a b).natAbs ≤ a.natAbs := by
  unfold lowN
  rw [Int.natAbs_tdiv]
  exact Nat.div_le_self _ _
theorem lowN_fine {a b B : Int} (h : 0 < b) (hB : -B ≤ a ∧ a ≤ B) : -B ≤ lowN a b ∧ lowN a b ≤ B := by
  have := lowN_abs (a := a) h
  omega
theorem gd_dvdN (a b : Int) : gd a b ∣ a := by
  unfold gd
  exact Int.ofNat_dvd_left.2 (Nat.gcd_dvd_left _ _)
/-- The fraction is the same. -/
theorem low_eq {a b : Int} (h : 0 < b) : lowN a b * b = a * lowD a b := by
  obtain ⟨x, hx⟩ := gd_dvdN a b
  obtain ⟨y, hy⟩ := gd_dvd a b
  have hg := gd_pos (a := a) h
  have e1 : lowN a b = x := by
    unfold lowN
    generalize hG : gd a b = G at *
    rw [hx]; exact Int.mul_tdiv_cancel_left _ (by omega)
  have e2 : lowD a b = y := by
    unfold lowD
    generalize hG : gd a b = G at *
    rw [hy]; exact Int.mul_ediv_cancel_left _ (by omega)
  rw [e1, e2]
  generalize hG : gd a b = G at *
  rw [hy, hx]
  grind

theorem i_lowestTerms (a b : Int) (w : World) (ha : fine a) (hb : fine b) (h0 : 0 < b) : Calls Try.prog 68 #[.int .i64 a, .int .i64 b] w fun e w' => e = .returned (.tuple #[.int .i64 (lowN a b), .int .i64 (lowD a b)]) ∧ ∃ m, w' = w.drewN m := by
  have hg := gd_pos (a := a) h0
  go_enter Try.func68, Try.ntmps68
  go_wp2_with fail
  refine (i_gcdOf _ _ _ ha hb).mono ?_
  rintro e _ ⟨rfl, m, rfl⟩
  go_wp2
  go_quiet (fail)
  go_wp2
  go_ret2
  exact ⟨rfl, _, World.drewN_drewN ..⟩
theorem s_l3Reduce (a b : Int) (w : World) (ha : fine a) (hb : fine b) (h0 : 0 < b) : Calls Try.prog 65 #[.int .i64 a, .int .i64 b] w fun e w' => e = .returned (.tuple #[.int .i64 (lowN a b), .int .i64 (lowD a b)]) ∧ ∃ m, w' = w.drewN m := by
  have hg := gd_pos (a := a) h0
  go_enter Try.func65, Try.ntmps65
  go_wp2_with fail
  refine (s_l3Common _ _ _ ha hb).mono ?_
  rintro e _ ⟨rfl, m, rfl⟩
  go_wp2
  go_quiet (fail)
  go_wp2
  go_ret2
  exact ⟨rfl, _, World.drewN_drewN ..⟩

theorem i_asPart (a b : Int) (w : World) (ha : fine a) (hb : fine b) (h0 : 0 < b) : Calls Try.prog 87 #[.int .i64 a, .int .i64 b] w fun e w' => e = .returned (.agg #[.int .i64 (lowN a b), .int .i64 (lowD a b)]) ∧ Below w.heap.size w w' := by
  go_enter Try.func87, Try.ntmps87
  go_wp2_with fail
  refine (i_lowestTerms _ _ _ ha hb h0).mono ?_
  rintro e _ ⟨rfl, m, rfl⟩
  go_wp2
  go_returns
  refine ⟨rfl, ?_⟩
  repeat' (first | (with_reducible exact Below.refl _ _) | (with_reducible assumption) | (with_reducible refine bstep ?_ (by with_reducible assumption)) | (with_reducible refine Below.alloc ?_ ?_ _) | (with_reducible refine Below.setCell ?_ ?_ _) | (with_reducible refine Below.drew ?_) | (with_reducible refine below_drewN ?_ _) | omega | (simp only [World.size_alloc, World.size_setCell, World.size_drew]; omega) | (simp; omega))

theorem mul_in {x y A B : Int} (hx : -A ≤ x ∧ x ≤ A) (hy : -B ≤ y ∧ y ≤ B) : -(A * B) ≤ x * y ∧ x * y ≤ A * B := by
  have h1 : x.natAbs ≤ A.toNat := by omega
  have h2 : y.natAbs ≤ B.toNat := by omega
  have h3 : (x * y).natAbs ≤ A.toNat * B.toNat := by rw [Int.natAbs_mul]; exact Nat.mul_le_mul h1 h2
  have h4 : ((A.toNat * B.toNat : Nat) : Int) = A * B := by
    rw [Int.natCast_mul, Int.toNat_of_nonneg (by omega), Int.toNat_of_nonneg (by omega)]
  omega

end Go.Proofs.Ytpcbeapajlchgaa

/-
  Curves: the head at a flow and the flow at a head.
-/
set_option linter.unusedVariables false
set_option linter.unusedSimpArgs false
namespace Go.Proofs.Ytpcbeapajlchgaa
open Go.RowKit

theorem pt_flow {l : List Pt} {n k : Nat} (h : goodCurve l = true) (hn : l.length = n) (hk : k < n) : (0 ≤ (pt l k).1 ∧ (pt l k).1 ≤ 1000) ∧ (0 ≤ (pt l k).2 ∧ (pt l k).2 ≤ 1000) := by
  simp only [goodCurve, Bool.and_eq_true, List.all_eq_true, List.mem_range] at h
  have := h.2 k (by omega)
  simp only [okAt, Bool.and_eq_true] at this
  exact ⟨inR_iff.1 this.1.1, inR_iff.1 this.1.2⟩
theorem pt_step {l : List Pt} {n k : Nat} (h : goodCurve l = true) (hn : l.length = n) (hk : k < n) (h0 : k ≠ 0) : (pt l (k - 1)).1 < (pt l k).1 ∧ (pt l k).2 < (pt l (k - 1)).2 := by
  simp only [goodCurve, Bool.and_eq_true, List.all_eq_true, List.mem_range] at h
  have := h.2 k (by omega)
  simp only [okAt, Bool.and_eq_true, Bool.or_eq_true, decide_eq_true_eq] at this
  rcases this.2 with h1 | h1
  · exact absurd h1 h0
  · exact h1
theorem good_len {l : List Pt} {n : Nat} (h : goodCurve l = true) (hn : l.length = n) : 2 ≤ n ∧ n ≤ 6 := by
  simp only [goodCurve, Bool.and_eq_true] at h
  have := inR_iff.1 h.1.1
  omega
theorem good_first {l : List Pt} (h : goodCurve l = true) : (pt l 0).1 = 0 := by
  simp only [goodCurve, Bool.and_eq_true, decide_eq_true_eq] at h
  exact h.1.2

/-- The point k is the first one, behind the first, at which a test holds. -/
def Seg (n : Nat) (p : Nat → Prop) (k : Nat) : Prop := 1 ≤ k ∧ k < n ∧ (∀ j, 1 ≤ j → j < k → ¬ p j) ∧ p k
theorem seg_exists {n : Nat} {p : Nat → Prop} (h2 : 2 ≤ n) (h : p (n - 1)) : ∃ k, Seg n p k := by
  have key : ∀ m, m < n → 1 ≤ m → p m → ∃ k, Seg n p k := by
    intro m
    induction m using Nat.strongRecOn with
    | _ m ih =>
      intro hm h1 hp
      by_cases hq : ∃ j, 1 ≤ j ∧ j < m ∧ p j
      · obtain ⟨j, h3, h4, h5⟩ := hq
        exact ih j h4 (by omega) h3 h5
      · exact ⟨m, h1, hm, fun j h3 h4 h5 => hq ⟨j, h3, h4, h5⟩, hp⟩
  exact key (n - 1) (by omega) (by omega) h

theorem pair_new (W : World) (x y : Obj) (g : Nat) (hg : g = W.heap.size) : Below g W ((W.alloc x).alloc y).drew ∧ ((W.alloc x).alloc y).drew.heap[g]? = some x ∧ ((W.alloc x).alloc y).drew.heap[g + 1]? = some y := by
  subst hg
  refine ⟨(((Below.refl _ _).alloc (Nat.le_refl _) _).alloc (by simp) _).drew, ?_, ?_⟩
  · rw [((Below.refl (W.heap.size + 1) (W.alloc x)).alloc (by simp) y).drew.block _ (by omega)]
    exact heap_alloc_new _ _
  · have e := heap_alloc_new (W.alloc x) y
    simp only [World.size_alloc] at e
    exact e

/-- The head at a flow, between the points k - 1 and k; the flow at a head. -/
def hdN (l : List Pt) (k : Nat) (q : Int) : Int := (pt l (k - 1)).2 * ((pt l k).1 - q) + (pt l k).2 * (q - (pt l (k - 1)).1)
def hdD (l : List Pt) (k : Nat) : Int := (pt l k).1 - (pt l (k - 1)).1
def flN (l : List Pt) (k : Nat) (q : Int) : Int := (pt l (k - 1)).1 * (q - (pt l k).2) + (pt l k).1 * ((pt l (k - 1)).2 - q)
def flD (l : List Pt) (k : Nat) : Int := (pt l (k - 1)).2 - (pt l k).2


theorem hdN_eq (l : List Pt) (k : Nat) (q : Int) : hdN l k q = (pt l (k - 1)).2 * ((pt l k).1 - (pt l (k - 1)).1) - ((pt l (k - 1)).2 - (pt l k).2) * (q - (pt l (k - 1)).1) := by unfold hdN; grind
theorem flN_eq (l : List Pt) (k : Nat) (q : Int) : flN l k q = (pt l (k - 1)).1 * ((pt l (k - 1)).2 - (pt l k).2) + ((pt l k).1 - (pt l (k - 1)).1) * ((pt l (k - 1)).2 - q) := by unfold flN; grind

set_option maxHeartbeats 4000000 in
theorem i_headAt (a : Option Addr) (n c k : Nat) (q : Int) (l : List Pt) (w : World) (h : PAt w a n l) (hg : goodCurve l = true) (hk : Seg n (fun j => q ≤ (pt l j).1) k) (hq : 0 ≤ q ∧ q ≤ 1000) :
    Calls Try.prog 63 #[.slice a n c, .int .i64 q] w fun e w' => e = .returned (.agg #[.int .i64 (lowN (hdN l k q) (hdD l k)), .int .i64 (lowD (hdN l k q) (hdD l k))]) ∧ Below w.heap.size w w' := by
  have H := hid h
  have HL := hid h.1
  have HG := hid hg
  obtain ⟨hk1, hkn, hks, hkp⟩ := hk
  have HK := hid hks
  obtain ⟨_, hn6⟩ := good_len hg h.1
  clear h hg hks
  go_enter Try.func63, Try.ntmps63
  go_wp2
  go_loopg [5] (k - 1) (fun g i wr => ∃ j : Nat, 1 ≤ j ∧ j ≤ k ∧ g = k - j ∧ i = .int .i64 j ∧ wr = w.alloc (.cells #[.int .i64 0, .int .i64 0] 74))
  case atStart => exact ⟨1, by omega, hk1, rfl, rfl, rfl⟩
  case round =>
    obtain ⟨j, hj1, hjk, rfl, rfl, rfl⟩ := hrel
    obtain ⟨b0, off0, rfl, hbw, x0, x1⟩ := PAt.get H.out j (by omega)
    by_cases hlt : j < k
    · have hf : (pt l j).1 < q := by have := HK.out j hj1 hlt; omega
      go_wp2
      go_roundg (k - (j + 1))
      case rel => exact ⟨j + 1, by omega, by omega, rfl, by go_num, rfl⟩
      case measure => omega
    · obtain rfl : j = k := by omega
      have hf : ¬ ((pt l j).1 < q) := by omega
      have hw : IntKind.i64.wrap ((j : Int) - 1) = ((j - 1 : Nat) : Int) := (IntWalk.i64_in _ (by omega)).trans (by omega)
      have hj2 : j - 1 < n := by omega
      obtain ⟨b2, off2, e2, _, y0, y1⟩ := PAt.get H.out (j - 1) (by omega)
      cases e2
      have hz1 : b0 < w.heap.size + 1 := by omega
      have hz2 : b0 < w.heap.size + 1 + 1 := by omega
      go_upto_region 4 with fail
      go_cut [6, 7] (fun s6 s7 wx => ∃ g6 g7 : Nat, s6 = .pointer (some ⟨g6, 0, none⟩) ∧ s7 = .pointer (some ⟨g7, 0, none⟩) ∧ Hid (Below (w.heap.size + 1) (w.alloc (.cells #[.int .i64 0, .int .i64 0] 74)) wx ∧ wx.heap[g6]? = some (.cells #[.int .i64 (pt l (j - 1)).1, .int .i64 (pt l (j - 1)).2] 52 (0, 0)) ∧ wx.heap[g7]? = some (.cells #[.int .i64 (pt l j).1, .int .i64 (pt l j).2] 52 (0, 0))))
      case first =>
        go_region_with (fail)
        all_goals (go_wp2_with fail; go_meet)
        all_goals first
          | (refine ⟨w.heap.size + 1, w.heap.size + 1 + 1, rfl, rfl, ?_⟩; obtain ⟨r1, r2, r3⟩ := pair_new (w.alloc (.cells #[.int .i64 0, .int .i64 0] 74)) _ _ (w.heap.size + 1) (by simp); exact ⟨r1, r2, r3⟩)
          | (refine ⟨w.heap.size + 1 + 1, w.heap.size + 1, rfl, rfl, ?_⟩; obtain ⟨r1, r2, r3⟩ := pair_new (w.alloc (.cells #[.int .i64 0, .int .i64 0] 74)) _ _ (w.heap.size + 1) (by simp); exact ⟨r1, r3, r2⟩)
      case rest =>
        obtain ⟨g6, g7, rfl, rfl, hx⟩ := hcut
        clear x0 x1 y0 y1 hz1 hz2 hw hbw hj2
        obtain ⟨hB, h6, h7⟩ := hx.out
        have T0 : wc.heap[w.heap.size]? = some (.cells #[.int .i64 0, .int .i64 0] 74 (0, 0)) := by rw [hB.block _ (by omega)]; exact heap_alloc_new _ _
        have hz6 := (Array.getElem?_eq_some_iff.1 h6).1
        have hz7 := (Array.getElem?_eq_some_iff.1 h7).1
        have hz0 := (Array.getElem?_eq_some_iff.1 T0).1
        have HB : Hid (Below w.heap.size w wc) := hid ((((Below.refl _ _).alloc (Nat.le_refl _) _)).trans (hB.mono (by omega)))
        have m60 := cell_of_row wc _ 0 _ _ (0, 0) h6
        have m61 := cell_of_row wc _ 1 _ _ (0, 0) h6
        have m70 := cell_of_row wc _ 0 _ _ (0, 0) h7
        have m71 := cell_of_row wc _ 1 _ _ (0, 0) h7
        clear hx h6 h7
        have hB := hid hB
        have T0 := hid T0
        obtain ⟨p1, p2⟩ := pt_flow HG.out HL.out (k := j - 1) (by omega)
        obtain ⟨p3, p4⟩ := pt_flow HG.out HL.out (k := j) (by omega)
        obtain ⟨p5, p6⟩ := pt_step HG.out HL.out (k := j) (by omega) (by omega)
        have q1 := mul_in (x := (pt l (j - 1)).2) (y := (pt l j).1 - q) (A := 1000) (B := 1000) (by omega) (by omega)
        have q2 := mul_in (x := (pt l j).2) (y := q - (pt l (j - 1)).1) (A := 1000) (B := 1000) (by omega) (by omega)
        simp only [Int.reduceMul] at q1 q2
        go_wp2_with fail
        refine (i_asPart _ _ _ (by omega) (by omega) (by omega)).mono ?_
        rintro e w2 ⟨rfl, hb⟩
        have T2 := hid ((hb.block w.heap.size hz0).trans T0.out)
        have n0 : w2.cell? ⟨w.heap.size, 0, none⟩ = some (.int .i64 0) := by rw [cell_of_row w2 _ _ _ _ (0, 0) T2.out]; rfl
        have n1 : w2.cell? ⟨w.heap.size, 1, none⟩ = some (.int .i64 0) := by rw [cell_of_row w2 _ _ _ _ (0, 0) T2.out]; rfl
        have f0 := frozen_of_row w2 _ 0 _ _ T2.out
        have f1 := frozen_of_row w2 _ 1 _ _ T2.out
        have hz3 : w.heap.size < w2.heap.size := (Array.getElem?_eq_some_iff.1 T2.out).1
        clear m60 m61 m70 m71
        go_wp2
        have e7 := heap_setCell_same _ _ 1 _ _ (.int .i64 (lowD (hdN l j q) (hdD l j))) (heap_setCell_same w2 _ 0 _ _ (.int .i64 (lowN (hdN l j q) (hdD l j))) T2.out)
        have u0 := cell_of_row _ _ 0 _ _ (0, 0) e7
        have u1 := cell_of_row _ _ 1 _ _ (0, 0) e7
        simp only [hdN, hdD, List.setIfInBounds_toArray, List.set_cons_zero, List.set_cons_succ, List.getElem?_toArray, List.getElem?_cons_zero, List.getElem?_cons_succ] at u0 u1
        refine bodyPost_ret (v := .agg #[.int .i64 (lowN (hdN l j q) (hdD l j)), .int .i64 (lowD (hdN l j q) (hdD l j))]) (by simp [results, Try.results63, go_sem, hdN, hdD, *]) rfl ⟨rfl, ((bstep HB.out hb).setCell (Nat.le_refl _) _).setCell (Nat.le_refl _) _⟩
set_option maxHeartbeats 4000000 in
theorem i_flowAt (a : Option Addr) (n c k : Nat) (q : Int) (l : List Pt) (w : World) (h : PAt w a n l) (hg : goodCurve l = true) (hk : Seg n (fun j => (pt l j).2 ≤ q) k) (hq : 0 ≤ q ∧ q ≤ 1000) :
    Calls Try.prog 60 #[.slice a n c, .int .i64 q] w fun e w' => e = .returned (.agg #[.int .i64 (lowN (flN l k q) (flD l k)), .int .i64 (lowD (flN l k q) (flD l k))]) ∧ Below w.heap.size w w' := by
  have H := hid h
  have HL := hid h.1
  have HG := hid hg
  obtain ⟨hk1, hkn, hks, hkp⟩ := hk
  have HK := hid hks
  obtain ⟨_, hn6⟩ := good_len hg h.1
  clear h hg hks
  go_enter Try.func60, Try.ntmps60
  go_wp2
  go_loopg [5] (k - 1) (fun g i wr => ∃ j : Nat, 1 ≤ j ∧ j ≤ k ∧ g = k - j ∧ i = .int .i64 j ∧ wr = w.alloc (.cells #[.int .i64 0, .int .i64 0] 74))
  case atStart => exact ⟨1, by omega, hk1, rfl, rfl, rfl⟩
  case round =>
    obtain ⟨j, hj1, hjk, rfl, rfl, rfl⟩ := hrel
    obtain ⟨b0, off0, rfl, hbw, x0, x1⟩ := PAt.get H.out j (by omega)
    by_cases hlt : j < k
    · have hf : (pt l j).2 > q := by have := HK.out j hj1 hlt; omega
      go_wp2
      go_roundg (k - (j + 1))
      case rel => exact ⟨j + 1, by omega, by omega, rfl, by go_num, rfl⟩
      case measure => omega
    · obtain rfl : j = k := by omega
      have hf : ¬ ((pt l j).2 > q) := by omega
      have hw : IntKind.i64.wrap ((j : Int) - 1) = ((j - 1 : Nat) : Int) := (IntWalk.i64_in _ (by omega)).trans (by omega)
      have hj2 : j - 1 < n := by omega
      obtain ⟨b2, off2, e2, _, y0, y1⟩ := PAt.get H.out (j - 1) (by omega)
      cases e2
      have hz1 : b0 < w.heap.size + 1 := by omega
      have hz2 : b0 < w.heap.size + 1 + 1 := by omega
      go_upto_region 4 with fail
      go_cut [6, 7] (fun s6 s7 wx => ∃ g6 g7 : Nat, s6 = .pointer (some ⟨g6, 0, none⟩) ∧ s7 = .pointer (some ⟨g7, 0, none⟩) ∧ Hid (Below (w.heap.size + 1) (w.alloc (.cells #[.int .i64 0, .int .i64 0] 74)) wx ∧ wx.heap[g6]? = some (.cells #[.int .i64 (pt l (j - 1)).1, .int .i64 (pt l (j - 1)).2] 52 (0, 0)) ∧ wx.heap[g7]? = some (.cells #[.int .i64 (pt l j).1, .int .i64 (pt l j).2] 52 (0, 0))))
      case first =>
        go_region_with (fail)
        all_goals (go_wp2_with fail; go_meet)
        all_goals first
          | (refine ⟨w.heap.size + 1, w.heap.size + 1 + 1, rfl, rfl, ?_⟩; obtain ⟨r1, r2, r3⟩ := pair_new (w.alloc (.cells #[.int .i64 0, .int .i64 0] 74)) _ _ (w.heap.size + 1) (by simp); exact ⟨r1, r2, r3⟩)
          | (refine ⟨w.heap.size + 1 + 1, w.heap.size + 1, rfl, rfl, ?_⟩; obtain ⟨r1, r2, r3⟩ := pair_new (w.alloc (.cells #[.int .i64 0, .int .i64 0] 74)) _ _ (w.heap.size + 1) (by simp); exact ⟨r1, r3, r2⟩)
      case rest =>
        obtain ⟨g6, g7, rfl, rfl, hx⟩ := hcut
        clear x0 x1 y0 y1 hz1 hz2 hw hbw hj2
        obtain ⟨hB, h6, h7⟩ := hx.out
        have T0 : wc.heap[w.heap.size]? = some (.cells #[.int .i64 0, .int .i64 0] 74 (0, 0)) := by rw [hB.block _ (by omega)]; exact heap_alloc_new _ _
        have hz6 := (Array.getElem?_eq_some_iff.1 h6).1
        have hz7 := (Array.getElem?_eq_some_iff.1 h7).1
        have hz0 := (Array.getElem?_eq_some_iff.1 T0).1
        have HB : Hid (Below w.heap.size w wc) := hid ((((Below.refl _ _).alloc (Nat.le_refl _) _)).trans (hB.mono (by omega)))
        have m60 := cell_of_row wc _ 0 _ _ (0, 0) h6
        have m61 := cell_of_row wc _ 1 _ _ (0, 0) h6
        have m70 := cell_of_row wc _ 0 _ _ (0, 0) h7
        have m71 := cell_of_row wc _ 1 _ _ (0, 0) h7
        clear hx h6 h7
        have hB := hid hB
        have T0 := hid T0
        obtain ⟨p1, p2⟩ := pt_flow HG.out HL.out (k := j - 1) (by omega)
        obtain ⟨p3, p4⟩ := pt_flow HG.out HL.out (k := j) (by omega)
        obtain ⟨p5, p6⟩ := pt_step HG.out HL.out (k := j) (by omega) (by omega)
        have q1 := mul_in (x := (pt l (j - 1)).1) (y := q - (pt l j).2) (A := 1000) (B := 1000) (by omega) (by omega)
        have q2 := mul_in (x := (pt l j).1) (y := (pt l (j - 1)).2 - q) (A := 1000) (B := 1000) (by omega) (by omega)
        simp only [Int.reduceMul] at q1 q2
        go_wp2_with fail
        refine (i_asPart _ _ _ (by omega) (by omega) (by omega)).mono ?_
        rintro e w2 ⟨rfl, hb⟩
        have T2 := hid ((hb.block w.heap.size hz0).trans T0.out)
        have n0 : w2.cell? ⟨w.heap.size, 0, none⟩ = some (.int .i64 0) := by rw [cell_of_row w2 _ _ _ _ (0, 0) T2.out]; rfl
        have n1 : w2.cell? ⟨w.heap.size, 1, none⟩ = some (.int .i64 0) := by rw [cell_of_row w2 _ _ _ _ (0, 0) T2.out]; rfl
        have f0 := frozen_of_row w2 _ 0 _ _ T2.out
        have f1 := frozen_of_row w2 _ 1 _ _ T2.out
        have hz3 : w.heap.size < w2.heap.size := (Array.getElem?_eq_some_iff.1 T2.out).1
        clear m60 m61 m70 m71
        go_wp2
        have e7 := heap_setCell_same _ _ 1 _ _ (.int .i64 (lowD (flN l j q) (flD l j))) (heap_setCell_same w2 _ 0 _ _ (.int .i64 (lowN (flN l j q) (flD l j))) T2.out)
        have u0 := cell_of_row _ _ 0 _ _ (0, 0) e7
        have u1 := cell_of_row _ _ 1 _ _ (0, 0) e7
        simp only [flN, flD, List.setIfInBounds_toArray, List.set_cons_zero, List.set_cons_succ, List.getElem?_toArray, List.getElem?_cons_zero, List.getElem?_cons_succ] at u0 u1
        refine bodyPost_ret (v := .agg #[.int .i64 (lowN (flN l j q) (flD l j)), .int .i64 (lowD (flN l j q) (flD l j))]) (by simp [results, Try.results60, go_sem, flN, flD, *]) rfl ⟨rfl, ((bstep HB.out hb).setCell (Nat.le_refl _) _).setCell (Nat.le_refl _) _⟩
set_option maxHeartbeats 4000000 in
theorem s_l7Head (a : Option Addr) (n c k : Nat) (q : Int) (l : List Pt) (w : World) (h : PAt w a n l) (hg : goodCurve l = true) (hk : Seg n (fun j => q ≤ (pt l j).1) k) (hq : 0 ≤ q ∧ q ≤ 1000) :
    Calls Try.prog 61 #[.slice a n c, .int .i64 q] w fun e w' => e = .returned (.tuple #[.int .i64 (lowN (hdN l k q) (hdD l k)), .int .i64 (lowD (hdN l k q) (hdD l k))]) ∧ Below w.heap.size w w' := by
  have H := hid h
  have HL := hid h.1
  have HG := hid hg
  obtain ⟨hk1, hkn, hks, hkp⟩ := hk
  have HK := hid hks
  obtain ⟨_, hn6⟩ := good_len hg h.1
  clear h hg hks
  go_enter Try.func61, Try.ntmps61
  go_wp2
  go_loopg [6] (k - 1) (fun g i wr => ∃ j : Nat, 1 ≤ j ∧ j ≤ k ∧ g = k - j ∧ i = .int .i64 j ∧ w = wr)
  case atStart => exact ⟨1, by omega, hk1, rfl, rfl, rfl⟩
  case round =>
    obtain ⟨j, hj1, hjk, rfl, rfl, rfl⟩ := hrel
    obtain ⟨b0, off0, rfl, hbw, x0, x1⟩ := PAt.get H.out j (by omega)
    by_cases hlt : j < k
    · have hf : (pt l j).1 < q := by have := HK.out j hj1 hlt; omega
      go_wp2
      go_roundg (k - (j + 1))
      case rel => exact ⟨j + 1, by omega, by omega, rfl, by go_num, rfl⟩
      case measure => omega
    · obtain rfl : j = k := by omega
      have hf : ¬ ((pt l j).1 < q) := by omega
      have hw : IntKind.i64.wrap ((j : Int) - 1) = ((j - 1 : Nat) : Int) := (IntWalk.i64_in _ (by omega)).trans (by omega)
      have hj2 : j - 1 < n := by omega
      obtain ⟨b2, off2, e2, _, y0, y1⟩ := PAt.get H.out (j - 1) (by omega)
      cases e2
      have hz1 : b0 < w.heap.size + 1 := by omega
      have hz2 : b0 < w.heap.size + 1 + 1 := by omega
      go_upto_region 4 with fail
      go_cut [7, 8] (fun s6 s7 wx => ∃ g6 g7 : Nat, s6 = .pointer (some ⟨g6, 0, none⟩) ∧ s7 = .pointer (some ⟨g7, 0, none⟩) ∧ Hid (Below w.heap.size w wx ∧ wx.heap[g6]? = some (.cells #[.int .i64 (pt l (j - 1)).1, .int .i64 (pt l (j - 1)).2] 52 (0, 0)) ∧ wx.heap[g7]? = some (.cells #[.int .i64 (pt l j).1, .int .i64 (pt l j).2] 52 (0, 0))))
      case first =>
        go_region_with (fail)
        all_goals (go_wp2_with fail; go_meet)
        all_goals first
          | (refine ⟨w.heap.size, w.heap.size + 1, rfl, rfl, ?_⟩; obtain ⟨r1, r2, r3⟩ := pair_new w _ _ w.heap.size rfl; exact ⟨r1, r2, r3⟩)
          | (refine ⟨w.heap.size + 1, w.heap.size, rfl, rfl, ?_⟩; obtain ⟨r1, r2, r3⟩ := pair_new w _ _ w.heap.size rfl; exact ⟨r1, r3, r2⟩)
      case rest =>
        obtain ⟨g6, g7, rfl, rfl, hx⟩ := hcut
        clear x0 x1 y0 y1 hz1 hz2 hw hbw hj2
        obtain ⟨hB, h6, h7⟩ := hx.out
        have hz6 := (Array.getElem?_eq_some_iff.1 h6).1
        have hz7 := (Array.getElem?_eq_some_iff.1 h7).1
        have m60 := cell_of_row wc _ 0 _ _ (0, 0) h6
        have m61 := cell_of_row wc _ 1 _ _ (0, 0) h6
        have m70 := cell_of_row wc _ 0 _ _ (0, 0) h7
        have m71 := cell_of_row wc _ 1 _ _ (0, 0) h7
        clear hx h6 h7
        have HB := hid hB
        clear hB
        obtain ⟨p1, p2⟩ := pt_flow HG.out HL.out (k := j - 1) (by omega)
        obtain ⟨p3, p4⟩ := pt_flow HG.out HL.out (k := j) (by omega)
        obtain ⟨p5, p6⟩ := pt_step HG.out HL.out (k := j) (by omega) (by omega)
        have q1 := mul_in (x := (pt l (j - 1)).2) (y := (pt l j).1 - (pt l (j - 1)).1) (A := 1000) (B := 1000) (by omega) (by omega)
        have q2 := mul_in (x := (pt l (j - 1)).2 - (pt l j).2) (y := q - (pt l (j - 1)).1) (A := 1000) (B := 1000) (by omega) (by omega)
        simp only [Int.reduceMul] at q1 q2
        go_wp2_with fail
        refine (s_l3Reduce _ _ _ (by omega) (by omega) (by omega)).mono ?_
        rintro e _ ⟨rfl, m, rfl⟩
        go_wp2
        go_ret2
        refine ⟨?_, below_drewN HB.out _⟩
        show Ending.returned _ = _
        rw [hdN_eq]
        rfl
set_option maxHeartbeats 4000000 in
theorem s_l7Flow (a : Option Addr) (n c k : Nat) (q : Int) (l : List Pt) (w : World) (h : PAt w a n l) (hg : goodCurve l = true) (hk : Seg n (fun j => (pt l j).2 ≤ q) k) (hq : 0 ≤ q ∧ q ≤ 1000) :
    Calls Try.prog 59 #[.slice a n c, .int .i64 q] w fun e w' => e = .returned (.tuple #[.int .i64 (lowN (flN l k q) (flD l k)), .int .i64 (lowD (flN l k q) (flD l k))]) ∧ Below w.heap.size w w' := by
  have H := hid h
  have HL := hid h.1
  have HG := hid hg
  obtain ⟨hk1, hkn, hks, hkp⟩ := hk
  have HK := hid hks
  obtain ⟨_, hn6⟩ := good_len hg h.1
  clear h hg hks
  go_enter Try.func59, Try.ntmps59
  go_wp2
  go_loopg [6] (k - 1) (fun g i wr => ∃ j : Nat, 1 ≤ j ∧ j ≤ k ∧ g = k - j ∧ i = .int .i64 j ∧ w = wr)
  case atStart => exact ⟨1, by omega, hk1, rfl, rfl, rfl⟩
  case round =>
    obtain ⟨j, hj1, hjk, rfl, rfl, rfl⟩ := hrel
    obtain ⟨b0, off0, rfl, hbw, x0, x1⟩ := PAt.get H.out j (by omega)
    by_cases hlt : j < k
    · have hf : (pt l j).2 > q := by have := HK.out j hj1 hlt; omega
      go_wp2
      go_roundg (k - (j + 1))
      case rel => exact ⟨j + 1, by omega, by omega, rfl, by go_num, rfl⟩
      case measure => omega
    · obtain rfl : j = k := by omega
      have hf : ¬ ((pt l j).2 > q) := by omega
      have hw : IntKind.i64.wrap ((j : Int) - 1) = ((j - 1 : Nat) : Int) := (IntWalk.i64_in _ (by omega)).trans (by omega)
      have hj2 : j - 1 < n := by omega
      obtain ⟨b2, off2, e2, _, y0, y1⟩ := PAt.get H.out (j - 1) (by omega)
      cases e2
      have hz1 : b0 < w.heap.size + 1 := by omega
      have hz2 : b0 < w.heap.size + 1 + 1 := by omega
      go_upto_region 4 with fail
      go_cut [7, 8] (fun s6 s7 wx => ∃ g6 g7 : Nat, s6 = .pointer (some ⟨g6, 0, none⟩) ∧ s7 = .pointer (some ⟨g7, 0, none⟩) ∧ Hid (Below w.heap.size w wx ∧ wx.heap[g6]? = some (.cells #[.int .i64 (pt l (j - 1)).1, .int .i64 (pt l (j - 1)).2] 52 (0, 0)) ∧ wx.heap[g7]? = some (.cells #[.int .i64 (pt l j).1, .int .i64 (pt l j).2] 52 (0, 0))))
      case first =>
        go_region_with (fail)
        all_goals (go_wp2_with fail; go_meet)
        all_goals first
          | (refine ⟨w.heap.size, w.heap.size + 1, rfl, rfl, ?_⟩; obtain ⟨r1, r2, r3⟩ := pair_new w _ _ w.heap.size rfl; exact ⟨r1, r2, r3⟩)
          | (refine ⟨w.heap.size + 1, w.heap.size, rfl, rfl, ?_⟩; obtain ⟨r1, r2, r3⟩ := pair_new w _ _ w.heap.size rfl; exact ⟨r1, r3, r2⟩)
      case rest =>
        obtain ⟨g6, g7, rfl, rfl, hx⟩ := hcut
        clear x0 x1 y0 y1 hz1 hz2 hw hbw hj2
        obtain ⟨hB, h6, h7⟩ := hx.out
        have hz6 := (Array.getElem?_eq_some_iff.1 h6).1
        have hz7 := (Array.getElem?_eq_some_iff.1 h7).1
        have m60 := cell_of_row wc _ 0 _ _ (0, 0) h6
        have m61 := cell_of_row wc _ 1 _ _ (0, 0) h6
        have m70 := cell_of_row wc _ 0 _ _ (0, 0) h7
        have m71 := cell_of_row wc _ 1 _ _ (0, 0) h7
        clear hx h6 h7
        have HB := hid hB
        clear hB
        obtain ⟨p1, p2⟩ := pt_flow HG.out HL.out (k := j - 1) (by omega)
        obtain ⟨p3, p4⟩ := pt_flow HG.out HL.out (k := j) (by omega)
        obtain ⟨p5, p6⟩ := pt_step HG.out HL.out (k := j) (by omega) (by omega)
        have q1 := mul_in (x := (pt l (j - 1)).1) (y := (pt l (j - 1)).2 - (pt l j).2) (A := 1000) (B := 1000) (by omega) (by omega)
        have q2 := mul_in (x := (pt l j).1 - (pt l (j - 1)).1) (y := (pt l (j - 1)).2 - q) (A := 1000) (B := 1000) (by omega) (by omega)
        simp only [Int.reduceMul] at q1 q2
        go_wp2_with fail
        refine (s_l3Reduce _ _ _ (by omega) (by omega) (by omega)).mono ?_
        rintro e _ ⟨rfl, m, rfl⟩
        go_wp2
        go_ret2
        refine ⟨?_, below_drewN HB.out _⟩
        show Ending.returned _ = _
        rw [flN_eq]
        rfl

end Go.Proofs.Ytpcbeapajlchgaa

/-
  Curves: HeadAt and FlowAt.
-/
set_option linter.unusedVariables false
set_option linter.unusedSimpArgs false
namespace Go.Proofs.Ytpcbeapajlchgaa
open Go.RowKit

theorem i_hasFlow (a : Option Addr) (n c : Nat) (q : Int) (l : List Pt) (w : World) (h : PAt w a n l) (hn : 1 ≤ n ∧ n ≤ 1048576) :
    Calls Try.prog 62 #[.slice a n c, .int .i64 q] w fun e w' => e = .returned (.bool (inR q 0 (pt l (n - 1)).1)) ∧ w = w' := by
  obtain ⟨b0, off0, rfl, hbw, x0, x1⟩ := PAt.get h (n - 1) (by omega)
  have hw : IntKind.i64.wrap ((n : Int) - 1) = ((n - 1 : Nat) : Int) := (IntWalk.i64_in _ (by omega)).trans (by omega)
  have hn2 : n - 1 < n := by omega
  clear h
  go_enter Try.func62, Try.ntmps62
  go_wp2_with fail
  refine (i_inside _ _ _ _).mono ?_
  rintro e _ ⟨rfl, rfl⟩
  go_wp2
  go_ret
  exact ⟨rfl, rfl⟩

/-- The flows and heads that a curve has. -/
def hasQ (l : List Pt) (n : Nat) (q : Int) : Bool := inR q 0 (pt l (n - 1)).1
def hasH (l : List Pt) (n : Nat) (q : Int) : Bool := inR q (pt l (n - 1)).2 (pt l 0).2

theorem seg_flow {l : List Pt} {n : Nat} {q : Int} (hg : goodCurve l = true) (hn : l.length = n) (h : hasQ l n q = true) : ∃ k, Seg n (fun j => q ≤ (pt l j).1) k := by
  have := good_len hg hn
  exact seg_exists this.1 (inR_iff.1 h).2
theorem seg_head {l : List Pt} {n : Nat} {q : Int} (hg : goodCurve l = true) (hn : l.length = n) (h : hasH l n q = true) : ∃ k, Seg n (fun j => (pt l j).2 ≤ q) k := by
  have := good_len hg hn
  exact seg_exists this.1 (inR_iff.1 h).1

theorem i_HeadAt_yes (a : Option Addr) (n c k : Nat) (q : Int) (l : List Pt) (w : World) (h : PAt w a n l) (hg : goodCurve l = true) (hq : hasQ l n q = true) (hk : Seg n (fun j => q ≤ (pt l j).1) k) :
    Calls Try.prog 27 #[.slice a n c, .int .i64 q] w fun e w' => e = .returned (.tuple #[.int .i64 (lowN (hdN l k q) (hdD l k)), .int .i64 (lowD (hdN l k q) (hdD l k)), .bool true]) ∧ Below w.heap.size w w' := by
  have hl := good_len hg h.1
  have hp := pt_flow hg h.1 (k := n - 1) (by omega)
  have hq2 : 0 ≤ q ∧ q ≤ 1000 := by have := inR_iff.1 hq; omega
  have H := hid h
  have HG := hid hg
  have HQ := hid hq
  have HK := hid hk
  clear h hg hq hp hk
  go_enter Try.func27, Try.ntmps27
  go_wp2_with fail
  refine (i_IsValidCurve _ _ _ l _ H.out (by omega)).mono ?_
  rintro e w1 ⟨rfl, hb1⟩
  rw [HG.out]
  go_wp2_with fail
  refine (i_hasFlow _ _ _ _ l _ (H.out.below hb1) (by omega)).mono ?_
  rintro e _ ⟨rfl, rfl⟩
  rw [show inR q 0 (pt l (n - 1)).1 = true from HQ.out]
  go_wp2_with fail
  refine (i_headAt _ _ _ _ _ l _ (H.out.below hb1) HG.out HK.out hq2).mono ?_
  rintro e w2 ⟨rfl, hb2⟩
  go_wp2
  go_quiet (fail)
  go_wp2
  go_ret3
  refine ⟨rfl, ?_⟩
  have z1 := hb1.size
  have z2 := hb2.size
  repeat' (first | (with_reducible exact Below.refl _ _) | (with_reducible assumption) | (with_reducible refine bstep ?_ (by with_reducible assumption)) | (with_reducible refine Below.alloc ?_ ?_ _) | (with_reducible refine Below.setCell ?_ ?_ _) | (with_reducible refine Below.drew ?_) | (with_reducible refine below_drewN ?_ _) | omega | (simp only [World.size_alloc, World.size_setCell, World.size_drew]; omega) | (simp; omega))

theorem i_HeadAt_no (a : Option Addr) (n c : Nat) (q : Int) (l : List Pt) (w : World) (h : PAt w a n l) (hn : n ≤ 1048576) (hg : (goodCurve l && hasQ l n q) = false) :
    Calls Try.prog 27 #[.slice a n c, .int .i64 q] w fun e w' => e = .returned (.tuple #[.int .i64 0, .int .i64 0, .bool false]) ∧ Below w.heap.size w w' := by
  cases h1 : goodCurve l
  · have H := hid h
    have HG := hid h1
    clear h hg h1
    go_enter Try.func27, Try.ntmps27
    go_wp2_with fail
    refine (i_IsValidCurve _ _ _ l _ H.out (by omega)).mono ?_
    rintro e w1 ⟨rfl, hb1⟩
    rw [HG.out]
    go_wp2
    go_ret3
    exact ⟨rfl, hb1⟩
  · have hl := good_len h1 h.1
    have H := hid h
    have HG := hid h1
    have HQ : Hid (hasQ l n q = false) := hid (by rw [h1] at hg; exact hg)
    clear h hg h1
    go_enter Try.func27, Try.ntmps27
    go_wp2_with fail
    refine (i_IsValidCurve _ _ _ l _ H.out (by omega)).mono ?_
    rintro e w1 ⟨rfl, hb1⟩
    rw [HG.out]
    go_wp2_with fail
    refine (i_hasFlow _ _ _ _ l _ (H.out.below hb1) (by omega)).mono ?_
    rintro e _ ⟨rfl, rfl⟩
    rw [show inR q 0 (pt l (n - 1)).1 = false from HQ.out]
    go_wp2
    go_ret3
    exact ⟨rfl, hb1⟩

theorem s_HeadAt_yes (a : Option Addr) (n c k : Nat) (q : Int) (l : List Pt) (w : World) (h : PAt w a n l) (hg : goodCurve l = true) (hq : hasQ l n q = true) (hk : Seg n (fun j => q ≤ (pt l j).1) k) :
    Calls Try.prog 26 #[.slice a n c, .int .i64 q] w fun e w' => e = .returned (.tuple #[.int .i64 (lowN (hdN l k q) (hdD l k)), .int .i64 (lowD (hdN l k q) (hdD l k)), .bool true]) ∧ Below w.heap.size w w' := by
  have hl := good_len hg h.1
  have hp := pt_flow hg h.1 (k := n - 1) (by omega)
  have hq2 : 0 ≤ q ∧ q ≤ 1000 := by have := inR_iff.1 hq; omega
  have hw : IntKind.i64.wrap ((n : Int) - 1) = ((n - 1 : Nat) : Int) := (IntWalk.i64_in _ (by omega)).trans (by omega)
  have hn2 : n - 1 < n := by omega
  have H := hid h
  have HG := hid hg
  have HQ := hid hq
  have HK := hid hk
  clear h hg hq hp hk
  go_enter Try.func26, Try.ntmps26
  go_wp2_with fail
  refine (s_l7Good _ _ _ l _ H.out (by omega)).mono ?_
  rintro e w1 ⟨rfl, hb1⟩
  rw [HG.out]
  obtain ⟨b0, off0, rfl, hbw, x0, x1⟩ := PAt.get (H.out.below hb1) (n - 1) (by omega)
  go_wp2_with fail
  refine (s_l1In _ _ _ _).mono ?_
  rintro e _ ⟨rfl, rfl⟩
  rw [show inR q 0 (pt l (n - 1)).1 = true from HQ.out]
  go_wp2_with fail
  refine (s_l7Head _ _ _ _ _ l _ (H.out.below hb1) HG.out HK.out hq2).mono ?_
  rintro e w2 ⟨rfl, hb2⟩
  go_wp2
  go_ret3
  exact ⟨rfl, bstep hb1 hb2⟩

theorem s_HeadAt_no (a : Option Addr) (n c : Nat) (q : Int) (l : List Pt) (w : World) (h : PAt w a n l) (hn : n ≤ 1048576) (hg : (goodCurve l && hasQ l n q) = false) :
    Calls Try.prog 26 #[.slice a n c, .int .i64 q] w fun e w' => e = .returned (.tuple #[.int .i64 0, .int .i64 0, .bool false]) ∧ Below w.heap.size w w' := by
  cases h1 : goodCurve l
  · have H := hid h
    have HG := hid h1
    clear h hg h1
    go_enter Try.func26, Try.ntmps26
    go_wp2_with fail
    refine (s_l7Good _ _ _ l _ H.out (by omega)).mono ?_
    rintro e w1 ⟨rfl, hb1⟩
    rw [HG.out]
    go_wp2
    go_ret3
    exact ⟨rfl, hb1⟩
  · have hl := good_len h1 h.1
    have hw : IntKind.i64.wrap ((n : Int) - 1) = ((n - 1 : Nat) : Int) := (IntWalk.i64_in _ (by omega)).trans (by omega)
    have hn2 : n - 1 < n := by omega
    have H := hid h
    have HG := hid h1
    have HQ : Hid (hasQ l n q = false) := hid (by rw [h1] at hg; exact hg)
    clear h hg h1
    go_enter Try.func26, Try.ntmps26
    go_wp2_with fail
    refine (s_l7Good _ _ _ l _ H.out (by omega)).mono ?_
    rintro e w1 ⟨rfl, hb1⟩
    rw [HG.out]
    obtain ⟨b0, off0, rfl, hbw, x0, x1⟩ := PAt.get (H.out.below hb1) (n - 1) (by omega)
    go_wp2_with fail
    refine (s_l1In _ _ _ _).mono ?_
    rintro e _ ⟨rfl, rfl⟩
    rw [show inR q 0 (pt l (n - 1)).1 = false from HQ.out]
    go_wp2
    go_ret3
    exact ⟨rfl, hb1⟩

end Go.Proofs.Ytpcbeapajlchgaa

/-
  The law FnExactHeadAt returns true for every input, and leaves its arguments as they were. No condition.
-/
set_option linter.unusedVariables false
set_option linter.unusedSimpArgs false
namespace Go.Proofs.Ytpcbeapajlchgaa
open Go.ChangeShapes Go.WideShapes Go.ChangeAt Go.RowKit Go.Joins Go.Deep

set_option maxHeartbeats 2000000 in
theorem law_HeadAt (a : Option Addr) (n c : Nat) (l : List Pt) (q : Int) (w : World) (h : PAt w a n l) (hmax : n ≤ 9223372036854775807) (bq : i64 q) :
    Calls Try.prog 6 #[.slice a n c, .int .i64 q] w fun e w' => e = .returned (.bool true) ∧ Below w.heap.size w w' := by
  have H_l := hid h
  clear h
  by_cases hn : 1048576 < n
  · go_enter Try.func6, Try.ntmps6
    go_wp2_with fail
    refine (l_szCurvePointS_no _ _ _ _ (by omega) (by omega)).mono ?_
    rintro e _ ⟨rfl, rfl⟩
    go_wp2
    go_ret
    exact ⟨rfl, by go_grown⟩
  by_cases hv : (goodCurve l && hasQ l n q) = true
  · obtain ⟨hg, hq⟩ := (Bool.and_eq_true _ _).mp hv
    obtain ⟨k, hk⟩ := seg_flow hg H_l.out.1 hq
    have G := hid hg
    have Q := hid hq
    have K := hid hk
    clear hv hg hq hk
    have hx : (lowN (hdN l k q) (hdD l k) != lowN (hdN l k q) (hdD l k)) = false := by simp
    have hy : (lowD (hdN l k q) (hdD l k) != lowD (hdN l k q) (hdD l k)) = false := by simp
    go_enter Try.func6, Try.ntmps6
    go_wp2_with fail
    refine (l_szCurvePointS_yes _ _ _ _ (by omega)).mono ?_
    rintro e _ ⟨rfl, rfl⟩
    go_wp2_with fail
    refine (l_toCurvePointS _ _ _ l _ (H_l.out.below (by go_grown)) (by omega)).mono ?_
    rintro e w1 ⟨a1, c1, rfl, o1, hb⟩
    have HB_1 := hid (bstep (by go_grown) hb : Below w.heap.size w w1)
    have B_1 := HB_1
    have S_1 := HB_1.out.size
    clear hb
    have O_s1 := hid o1
    clear o1
    go_wp2_with fail
    refine (s_HeadAt_yes _ _ _ k q l _ ((OwnS.at pf_len O_s1.out).below (by go_grown)) G.out Q.out K.out).mono ?_
    rintro e w2 ⟨rfl, hb⟩
    have HB_2 := hid (bstep (by go_grown) hb : Below w1.heap.size w1 w2)
    have B_2 := hid (bstep B_1.out HB_2.out)
    have S_2 := HB_2.out.size
    clear hb
    go_wp2_with fail
    refine (l_toCurvePointS _ _ _ l _ ((H_l.out.below B_2.out).below (by go_grown)) (by omega)).mono ?_
    rintro e w3 ⟨a2, c2, rfl, o2, hb⟩
    have HB_3 := hid (bstep (by go_grown) hb : Below w2.heap.size w2 w3)
    have B_3 := hid (bstep B_2.out HB_3.out)
    have S_3 := HB_3.out.size
    clear hb
    have O_x1 := hid o2
    clear o2
    go_wp2_with fail
    refine (i_HeadAt_yes _ _ _ k q l _ ((OwnS.at pf_len O_x1.out).below (by go_grown)) G.out Q.out K.out).mono ?_
    rintro e w4 ⟨rfl, hb⟩
    have HB_4 := hid (bstep (by go_grown) hb : Below w3.heap.size w3 w4)
    have B_4 := hid (bstep B_3.out HB_4.out)
    have S_4 := HB_4.out.size
    clear hb
    go_wp2_with fail
    refine (l_toCurvePointS _ _ _ l _ ((H_l.out.below B_4.out).below (by go_grown)) (by omega)).mono ?_
    rintro e w5 ⟨a3, c3, rfl, o3, hb⟩
    have HB_5 := hid (bstep (by go_grown) hb : Below w4.heap.size w4 w5)
    have B_5 := hid (bstep B_4.out HB_5.out)
    have S_5 := HB_5.out.size
    clear hb
    have O_y1 := hid o3
    clear o3
    have O_x1_5 := hid ((O_x1.out.below HB_4.out).below HB_5.out)
    go_wp2_with fail
    refine (l_eqCurvePointS _ _ _ _ _ l _ ((OwnS.at pf_len O_x1_5.out).below (by go_grown)) ((OwnS.at pf_len O_y1.out).below (by go_grown)) (by omega)).mono ?_
    rintro e w6 ⟨rfl, hb⟩
    have HB_6 := hid (bstep (by go_grown) hb : Below w5.heap.size w5 w6)
    have B_6 := hid (bstep B_5.out HB_6.out)
    have S_6 := HB_6.out.size
    clear hb
    go_wp2
    go_ret
    exact ⟨rfl, B_6.out⟩
  · have V := hid (show (goodCurve l && hasQ l n q) = false by simpa using hv)
    clear hv
    go_enter Try.func6, Try.ntmps6
    go_wp2_with fail
    refine (l_szCurvePointS_yes _ _ _ _ (by omega)).mono ?_
    rintro e _ ⟨rfl, rfl⟩
    go_wp2_with fail
    refine (l_toCurvePointS _ _ _ l _ (H_l.out.below (by go_grown)) (by omega)).mono ?_
    rintro e w1 ⟨a1, c1, rfl, o1, hb⟩
    have HB_1 := hid (bstep (by go_grown) hb : Below w.heap.size w w1)
    have B_1 := HB_1
    have S_1 := HB_1.out.size
    clear hb
    have O_s1 := hid o1
    clear o1
    go_wp2_with fail
    refine (s_HeadAt_no _ _ _ q l _ ((OwnS.at pf_len O_s1.out).below (by go_grown)) (by omega) V.out).mono ?_
    rintro e w2 ⟨rfl, hb⟩
    have HB_2 := hid (bstep (by go_grown) hb : Below w1.heap.size w1 w2)
    have B_2 := hid (bstep B_1.out HB_2.out)
    have S_2 := HB_2.out.size
    clear hb
    go_wp2_with fail
    refine (l_toCurvePointS _ _ _ l _ ((H_l.out.below B_2.out).below (by go_grown)) (by omega)).mono ?_
    rintro e w3 ⟨a2, c2, rfl, o2, hb⟩
    have HB_3 := hid (bstep (by go_grown) hb : Below w2.heap.size w2 w3)
    have B_3 := hid (bstep B_2.out HB_3.out)
    have S_3 := HB_3.out.size
    clear hb
    have O_x1 := hid o2
    clear o2
    go_wp2_with fail
    refine (i_HeadAt_no _ _ _ q l _ ((OwnS.at pf_len O_x1.out).below (by go_grown)) (by omega) V.out).mono ?_
    rintro e w4 ⟨rfl, hb⟩
    have HB_4 := hid (bstep (by go_grown) hb : Below w3.heap.size w3 w4)
    have B_4 := hid (bstep B_3.out HB_4.out)
    have S_4 := HB_4.out.size
    clear hb
    go_wp2_with fail
    refine (l_toCurvePointS _ _ _ l _ ((H_l.out.below B_4.out).below (by go_grown)) (by omega)).mono ?_
    rintro e w5 ⟨a3, c3, rfl, o3, hb⟩
    have HB_5 := hid (bstep (by go_grown) hb : Below w4.heap.size w4 w5)
    have B_5 := hid (bstep B_4.out HB_5.out)
    have S_5 := HB_5.out.size
    clear hb
    have O_y1 := hid o3
    clear o3
    have O_x1_5 := hid ((O_x1.out.below HB_4.out).below HB_5.out)
    go_wp2_with fail
    refine (l_eqCurvePointS _ _ _ _ _ l _ ((OwnS.at pf_len O_x1_5.out).below (by go_grown)) ((OwnS.at pf_len O_y1.out).below (by go_grown)) (by omega)).mono ?_
    rintro e w6 ⟨rfl, hb⟩
    have HB_6 := hid (bstep (by go_grown) hb : Below w5.heap.size w5 w6)
    have B_6 := hid (bstep B_5.out HB_6.out)
    have S_6 := HB_6.out.size
    clear hb
    go_wp2
    go_ret
    exact ⟨rfl, B_6.out⟩

set_option maxRecDepth 100000 in
theorem fnExactHeadAt_lifted (os : Os) (started : os.Started) (H : Type) (enc : TypeId × Value → H) :
    ReturnsInHanded {} Try.checked os 6 .any (Rows.fnExactHeadAtSpec.pre6 enc Try.prog Try.f6 Rows.fnExactHeadAtRow.domain false) (Rows.fnExactHeadAtSpec.post enc Try.prog Try.f6 false true false false) := by
  refine returnsInHanded_of_change (C := Try.checked) Try.own started (by kernel_rfl) Try.func6
    (ChangeSpec.witness6 (enc := enc) (C := Try.checked) false ⟨#[], #[.slice none 0 0, .int .i64 0], []⟩ 8 (by kernel_rfl) (by kernel_rfl) (by kernel_rfl) (by kernel_rfl)) ?_
  intro W base args ds gs before hval0 hW _ _
  have hval : ∀ (j : Nat) t v, Try.f6.params[j]? = some t → args[j]? = some v → Value.okWide Try.prog W .any base t v := hval0
  have hW' : DataW.Whole enc Try.prog Try.f6.params.toList Rows.fnExactHeadAtSpec.vars false W args.toList ds gs before := hW
  obtain ⟨p, q, hA0, hV, rfl, hfz, hnd⟩ := hW
  have hlt : ∀ x ∈ p, x.block < W.heap.size := fun x hx => hW'.lt x (by simp [hx])
  have hA : DataW.TrodAll enc Try.prog W 0 (fun _ => true) true Try.f6.params.toList args.toList ds p := hA0
  rw [Try.params6] at hA hval
  clear hA0 hval0
  obtain ⟨v0, v1, d0, d1, p0, p1, rfl, rfl, rfl, h0, h1⟩ := trodAll_two hA
  obtain ⟨rfl, rfl⟩ := trodVars_none hV
  obtain ⟨x0, n0, k0, l0, rfl, g0, m0, b0⟩ := open_pts_at (hval 0 22 v0 rfl rfl) h0
  obtain ⟨i1, rfl, rfl, rfl, wi1⟩ := open_int Try.underlying3 (hval 1 3 v1 rfl rfl) h1
  refine (law_HeadAt x0 n0 k0 l0 i1 W g0 m0 (wf_i64 wi1)).mono fun e W' ⟨he, hb⟩ => ?_
  subst he
  exact ⟨_, rfl, law_post rfl rfl (by kernel_rfl) hW' rfl rfl rfl hb⟩

theorem fnExactHeadAt_proved : Rows.FnExactHeadAtSaid :=
  OpenClaim.holds_of_wide 6 Try.f6 rfl rfl rfl rfl rfl rfl rfl ⟨rfl, rfl, rfl, rfl, rfl⟩ rfl rfl rfl rfl rfl (by kernel_rfl) Try.func6 (by kernel_rfl)
    (of_decide_eq_true (by kernel_rfl)) (by unfold Func.isWrapper; first | (rw [if_pos (by decide +kernel)]; kernel_rfl) | (rw [if_neg (by decide +kernel)]; exact ⟨rfl, rfl⟩))
    (fun os started H enc _ => fnExactHeadAt_lifted os started H enc)

end Go.Proofs.Ytpcbeapajlchgaa

/-
  A drawn region whose operations read and whose calls may make memory, but hand back values that do not hang on the world: one walk in the order of the text.
-/
set_option linter.unusedVariables false
namespace Go.Proofs.Ytpcbeapajlchgaa
open Go.RowKit

theorem wp_region_calm {P : Program} {C : World → Prop} {id : Nat} {Q : Exit → Act → World → Prop} {a : Act} {w : World} {l : List Oper} (hm : P.follows .mixedOrders = true) (hB : Region.lexB .any l.toArray = true) (hC : C w.drew)
    (h : wpQuiet P l.toArray C (fun a' => ∀ w', C w' → Q .normal a' w') l a) : (Code.region id l.toArray true).wp P Q a w :=
  wp_region_quiet (C := C) hm hB hC (by simpa using h)

/-- at a call of a function: its contract -/
theorem calm_call {P : Program} {C : World → Prop} {w' : World} {f : FuncId} {args : Array Value} {v u : Value} (hC : C w') (keep : ∀ wy w5 : World, C wy → Below wy.heap.size wy w5 → C w5)
    (h : Calls P f args w' fun e w5 => e = .returned u ∧ Below w'.heap.size w' w5) (e : u = v) : Calls P f args w' fun e w'' => e = .returned v ∧ C w'' :=
  h.mono fun _ _ ⟨he, hb⟩ => ⟨by rw [he, e], keep _ _ hC hb⟩
theorem calm_same {P : Program} {C : World → Prop} {w' : World} {f : FuncId} {args : Array Value} {v u : Value} (hC : C w')
    (h : Calls P f args w' fun e w5 => e = .returned u ∧ w' = w5) (e : u = v) : Calls P f args w' fun e w'' => e = .returned v ∧ C w'' :=
  h.mono fun _ _ ⟨he, hb⟩ => ⟨by rw [he, e], hb ▸ hC⟩

end Go.Proofs.Ytpcbeapajlchgaa

