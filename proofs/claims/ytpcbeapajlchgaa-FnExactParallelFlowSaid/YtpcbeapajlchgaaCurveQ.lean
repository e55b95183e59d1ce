/-
  What the answers on curves say of one another (plain), and the answers of HeadAt, FlowAt, RaiseCurve under one name.
-/
import Derived.Test.YtpcbeapajlchgaaCurveB3
import Derived.Test.YtpcbeapajlchgaaCurveW
import Derived.Test.YtpcbeapajlchgaaCurveR
set_option linter.unusedVariables false
set_option linter.unusedSimpArgs false
namespace Go.Proofs.Ytpcbeapajlchgaa
open Go.RowKit

theorem low_exact {D : Int} (h : Int) (hD : 0 < D) : lowN (h * D) D = h ∧ lowD (h * D) D = 1 := by
  have e : gd (h * D) D = D := by
    unfold gd
    rw [Int.natAbs_mul, Nat.gcd_mul_left_left]
    omega
  unfold lowN lowD
  rw [e]
  exact ⟨Int.mul_tdiv_cancel h (by omega), Int.ediv_self (by omega)⟩
theorem low_one {a b : Int} (hb : 0 < b) (h : lowD a b = 1) : a = lowN a b * b := by
  have := low_eq (a := a) hb
  rw [h, Int.mul_one] at this
  exact this.symm
theorem seg_unique {n : Nat} {p : Nat → Prop} {j k : Nat} (hj : Seg n p j) (hk : Seg n p k) : j = k := by
  obtain ⟨a1, a2, a3, a4⟩ := hj
  obtain ⟨b1, b2, b3, b4⟩ := hk
  rcases Nat.lt_trichotomy j k with h | h | h
  · exact absurd a4 (b3 j a1 h)
  · exact h
  · exact absurd b4 (a3 k b1 h)
theorem pt_mono {l : List Pt} {n : Nat} (hg : goodCurve l = true) (hn : l.length = n) : ∀ (d j : Nat), 0 < d → j + d < n → (pt l j).1 < (pt l (j + d)).1 ∧ (pt l (j + d)).2 < (pt l j).2
  | 0, j, h, _ => by omega
  | d + 1, j, _, hk => by
    have h1 := pt_step hg hn (k := j + (d + 1)) (by omega) (by omega)
    rw [show j + (d + 1) - 1 = j + d by omega] at h1
    by_cases hd : d = 0
    · subst hd
      exact h1
    · have ih := pt_mono hg hn d j (by omega) (by omega)
      omega
theorem pt_lt {l : List Pt} {n j k : Nat} (hg : goodCurve l = true) (hn : l.length = n) (h : j < k) (hk : k < n) : (pt l j).1 < (pt l k).1 ∧ (pt l k).2 < (pt l j).2 := by
  have := pt_mono hg hn (k - j) j (by omega) (by omega)
  rwa [show j + (k - j) = k by omega] at this

/-- The segment of a head. -/
noncomputable def segH (l : List Pt) (q : Int) : Nat := by
  classical
  exact if h : ∃ k, Seg l.length (fun j => (pt l j).2 ≤ q) k then Classical.choose h else 0
theorem segH_is {l : List Pt} {q : Int} (h : ∃ k, Seg l.length (fun j => (pt l j).2 ≤ q) k) : Seg l.length (fun j => (pt l j).2 ≤ q) (segH l q) := by
  unfold segH
  rw [dif_pos h]
  exact Classical.choose_spec h
/-- What HeadAt, FlowAt return. -/
noncomputable def headR (l : List Pt) (q : Int) : Int × Int × Bool := if (goodCurve l && hasQ l l.length q) = true then (hN l l.length q, hD l l.length q, true) else (0, 0, false)
noncomputable def flowR (l : List Pt) (q : Int) : Int × Int × Bool := if (goodCurve l && hasH l l.length q) = true then (lowN (flN l (segH l q) q) (flD l (segH l q)), lowD (flN l (segH l q) q) (flD l (segH l q)), true) else (0, 0, false)

theorem i_HeadAt_is (a : Option Addr) (n c : Nat) (q : Int) (l : List Pt) (w : World) (h : PAt w a n l) (hn : n ≤ 1048576) (x y : Int) (z : Bool) (hR : headR l q = (x, y, z)) :
    Calls Try.prog 27 #[.slice a n c, .int .i64 q] w fun e w' => e = .returned (.tuple #[.int .i64 x, .int .i64 y, .bool z]) ∧ Below w.heap.size w w' := by
  have hl := h.1
  subst hl
  by_cases hc : (goodCurve l && hasQ l l.length q) = true
  · obtain ⟨h1, h2⟩ := (Bool.and_eq_true _ _).mp hc
    unfold headR at hR
    rw [if_pos hc] at hR
    simp only [Prod.mk.injEq] at hR
    obtain ⟨rfl, rfl, rfl⟩ := hR
    exact i_HeadAt_yes a _ c _ q l w h h1 h2 (segK_is (seg_flow h1 rfl h2))
  · have hc' : (goodCurve l && hasQ l l.length q) = false := by simpa using hc
    unfold headR at hR
    rw [if_neg hc] at hR
    simp only [Prod.mk.injEq] at hR
    obtain ⟨rfl, rfl, rfl⟩ := hR
    exact i_HeadAt_no a _ c q l w h hn hc'
theorem s_HeadAt_is (a : Option Addr) (n c : Nat) (q : Int) (l : List Pt) (w : World) (h : PAt w a n l) (hn : n ≤ 1048576) (x y : Int) (z : Bool) (hR : headR l q = (x, y, z)) :
    Calls Try.prog 26 #[.slice a n c, .int .i64 q] w fun e w' => e = .returned (.tuple #[.int .i64 x, .int .i64 y, .bool z]) ∧ Below w.heap.size w w' := by
  have hl := h.1
  subst hl
  by_cases hc : (goodCurve l && hasQ l l.length q) = true
  · obtain ⟨h1, h2⟩ := (Bool.and_eq_true _ _).mp hc
    unfold headR at hR
    rw [if_pos hc] at hR
    simp only [Prod.mk.injEq] at hR
    obtain ⟨rfl, rfl, rfl⟩ := hR
    exact s_HeadAt_yes a _ c _ q l w h h1 h2 (segK_is (seg_flow h1 rfl h2))
  · have hc' : (goodCurve l && hasQ l l.length q) = false := by simpa using hc
    unfold headR at hR
    rw [if_neg hc] at hR
    simp only [Prod.mk.injEq] at hR
    obtain ⟨rfl, rfl, rfl⟩ := hR
    exact s_HeadAt_no a _ c q l w h hn hc'
theorem i_FlowAt_is (a : Option Addr) (n c : Nat) (q : Int) (l : List Pt) (w : World) (h : PAt w a n l) (hn : n ≤ 1048576) (x y : Int) (z : Bool) (hR : flowR l q = (x, y, z)) :
    Calls Try.prog 25 #[.slice a n c, .int .i64 q] w fun e w' => e = .returned (.tuple #[.int .i64 x, .int .i64 y, .bool z]) ∧ Below w.heap.size w w' := by
  have hl := h.1
  subst hl
  by_cases hc : (goodCurve l && hasH l l.length q) = true
  · obtain ⟨h1, h2⟩ := (Bool.and_eq_true _ _).mp hc
    unfold flowR at hR
    rw [if_pos hc] at hR
    simp only [Prod.mk.injEq] at hR
    obtain ⟨rfl, rfl, rfl⟩ := hR
    exact i_FlowAt_yes a _ c _ q l w h h1 h2 (segH_is (seg_head h1 rfl h2))
  · have hc' : (goodCurve l && hasH l l.length q) = false := by simpa using hc
    unfold flowR at hR
    rw [if_neg hc] at hR
    simp only [Prod.mk.injEq] at hR
    obtain ⟨rfl, rfl, rfl⟩ := hR
    exact i_FlowAt_no a _ c q l w h hn hc'
theorem s_FlowAt_is (a : Option Addr) (n c : Nat) (q : Int) (l : List Pt) (w : World) (h : PAt w a n l) (hn : n ≤ 1048576) (x y : Int) (z : Bool) (hR : flowR l q = (x, y, z)) :
    Calls Try.prog 24 #[.slice a n c, .int .i64 q] w fun e w' => e = .returned (.tuple #[.int .i64 x, .int .i64 y, .bool z]) ∧ Below w.heap.size w w' := by
  have hl := h.1
  subst hl
  by_cases hc : (goodCurve l && hasH l l.length q) = true
  · obtain ⟨h1, h2⟩ := (Bool.and_eq_true _ _).mp hc
    unfold flowR at hR
    rw [if_pos hc] at hR
    simp only [Prod.mk.injEq] at hR
    obtain ⟨rfl, rfl, rfl⟩ := hR
    exact s_FlowAt_yes a _ c _ q l w h h1 h2 (segH_is (seg_head h1 rfl h2))
  · have hc' : (goodCurve l && hasH l l.length q) = false := by simpa using hc
    unfold flowR at hR
    rw [if_neg hc] at hR
    simp only [Prod.mk.injEq] at hR
    obtain ⟨rfl, rfl, rfl⟩ := hR
    exact s_FlowAt_no a _ c q l w h hn hc'

theorem head_seg {l : List Pt} {q : Int} {k : Nat} (hg : goodCurve l = true) (hk : Seg l.length (fun j => q ≤ (pt l j).1) k) (h0 : 0 ≤ q) : headR l q = (lowN (hdN l k q) (hdD l k), lowD (hdN l k q) (hdD l k), true) := by
  obtain ⟨k1, k2, k3, k4⟩ := hk
  have hq : hasQ l l.length q = true := by
    unfold hasQ
    refine inR_iff.2 ⟨h0, ?_⟩
    by_cases e : k = l.length - 1
    · rw [← e]; exact k4
    · have := (pt_lt hg rfl (j := k) (k := l.length - 1) (by omega) (by omega)).1
      omega
  unfold headR
  rw [if_pos (by rw [hg, hq]; rfl)]
  have e := seg_unique (segK_is (seg_flow hg rfl hq)) (⟨k1, k2, k3, k4⟩ : Seg l.length (fun j => q ≤ (pt l j).1) k)
  unfold hN hD
  rw [e]
/-- The head at the last flow. -/
theorem head_last {l : List Pt} (hg : goodCurve l = true) : headR l (pt l (l.length - 1)).1 = ((pt l (l.length - 1)).2, 1, true) := by
  have hl := good_len hg rfl
  have hp := pt_flow hg rfl (k := l.length - 1) (by omega)
  have hs : Seg l.length (fun j => (pt l (l.length - 1)).1 ≤ (pt l j).1) (l.length - 1) := ⟨by omega, by omega, fun j h1 h2 h3 => by have := (pt_lt hg rfl h2 (by omega)).1; omega, Int.le_refl _⟩
  rw [head_seg hg hs hp.1.1]
  have hst := (pt_lt hg rfl (j := l.length - 1 - 1) (k := l.length - 1) (by omega) (by omega)).1
  have e : hdN l (l.length - 1) (pt l (l.length - 1)).1 = (pt l (l.length - 1)).2 * hdD l (l.length - 1) := by unfold hdN hdD; grind
  have hD : 0 < hdD l (l.length - 1) := by unfold hdD; omega
  rw [e, (low_exact _ hD).1, (low_exact _ hD).2]
/-- The flow at the first head. -/
theorem flow_first {l : List Pt} (hg : goodCurve l = true) : flowR l (pt l 0).2 = (0, 1, true) := by
  have hl := good_len hg rfl
  have h01 := pt_lt hg rfl (j := 0) (k := 1) (by omega) (by omega)
  have hl0 : (pt l (l.length - 1)).2 ≤ (pt l 0).2 := by have := (pt_lt hg rfl (j := 0) (k := l.length - 1) (by omega) (by omega)).2; omega
  have hq : hasH l l.length (pt l 0).2 = true := inR_iff.2 ⟨hl0, Int.le_refl _⟩
  have hs : Seg l.length (fun j => (pt l j).2 ≤ (pt l 0).2) 1 := ⟨by omega, by omega, fun j h1 h2 => by omega, by show (pt l 1).2 ≤ _; omega⟩
  unfold flowR
  rw [if_pos (by rw [hg, hq]; rfl), seg_unique (segH_is ⟨1, hs⟩) hs]
  have hf := good_first hg
  have e : flN l 1 (pt l 0).2 = 0 * flD l 1 := by unfold flN; simp only [Nat.sub_self]; rw [hf]; simp
  have hD : 0 < flD l 1 := by unfold flD; simp only [Nat.sub_self]; omega
  rw [e, (low_exact _ hD).1, (low_exact _ hD).2]
/-- At a whole flow the head is that for which the flow was asked. -/
theorem flow_whole {l : List Pt} {q x : Int} (h : flowR l q = (x, 1, true)) : headR l x = (q, 1, true) := by
  unfold flowR at h
  split at h
  · rename_i h1
    obtain ⟨hg, hq⟩ := (Bool.and_eq_true _ _).mp h1
    obtain ⟨q1, q2⟩ := inR_iff.1 hq
    have hs := segH_is (seg_head hg rfl hq)
    generalize segH l q = k at h hs
    obtain ⟨k1, k2, k3, k4⟩ := hs
    simp only [Prod.mk.injEq, and_true] at h
    obtain ⟨hx, hd⟩ := h
    have h01 := pt_lt hg rfl (j := k - 1) (k := k) (by omega) (by omega)
    have hp := pt_flow hg rfl (k := k - 1) (by omega)
    have hD : 0 < flD l k := by unfold flD; omega
    have hN := low_one hD hd
    rw [hx] at hN
    have hprev : q ≤ (pt l (k - 1)).2 := by
      by_cases e : k = 1
      · subst e; exact q2
      · have := k3 (k - 1) (by omega) (by omega)
        omega
    unfold flN flD at hN
    -- x lies in the segment
    have hu : x ≤ (pt l k).1 := by
      apply Classical.byContradiction
      intro hc
      have h5 : ((pt l k).1 + 1) * ((pt l (k - 1)).2 - (pt l k).2) ≤ x * ((pt l (k - 1)).2 - (pt l k).2) := Int.mul_le_mul_of_nonneg_right (by omega) (by omega)
      have h6 : 0 ≤ ((pt l k).1 - (pt l (k - 1)).1) * (q - (pt l k).2) := Int.mul_nonneg (by omega) (by omega)
      grind
    have hlo : (pt l (k - 1)).1 ≤ x := by
      apply Classical.byContradiction
      intro hc
      have h5 : x * ((pt l (k - 1)).2 - (pt l k).2) ≤ ((pt l (k - 1)).1 - 1) * ((pt l (k - 1)).2 - (pt l k).2) := Int.mul_le_mul_of_nonneg_right (by omega) (by omega)
      have h6 : 0 ≤ ((pt l k).1 - (pt l (k - 1)).1) * ((pt l (k - 1)).2 - q) := Int.mul_nonneg (by omega) (by omega)
      grind
    have key : hdN l k x = q * hdD l k := by unfold hdN hdD; grind
    have hDD : 0 < hdD l k := by unfold hdD; omega
    by_cases hkk : k = 1 ∨ (pt l (k - 1)).1 < x
    · have hsx : Seg l.length (fun j => x ≤ (pt l j).1) k := by
        refine ⟨k1, k2, fun j j1 j2 j3 => ?_, hu⟩
        rcases hkk with e | e
        · omega
        · by_cases e2 : j = k - 1
          · subst e2; omega
          · have := (pt_lt hg rfl (j := j) (k := k - 1) (by omega) (by omega)).1; omega
      rw [head_seg hg hsx (by omega), key, (low_exact _ hDD).1, (low_exact _ hDD).2]
    · -- at the segment's beginning the head is that point's, which lies above
      exfalso
      have hx1 : x = (pt l (k - 1)).1 := by omega
      have hk1 := k3 (k - 1) (by omega) (by omega)
      have h5 : 0 < ((pt l k).1 - (pt l (k - 1)).1) * ((pt l (k - 1)).2 - q) := Int.mul_pos (by omega) (by omega)
      rw [hx1] at hN
      generalize (pt l k).1 = b1 at h5 hN
      generalize (pt l (k - 1)).1 = a1 at h5 hN
      generalize (pt l k).2 = b2 at h5 hN
      generalize (pt l (k - 1)).2 = a2 at h5 hN
      have e : (b1 - a1) * (a2 - q) = a1 * (q - b2) + b1 * (a2 - q) - a1 * (a2 - b2) := by grind
      rw [e, hN] at h5
      omega
  · cases h

end Go.Proofs.Ytpcbeapajlchgaa
