/-
  Texts of this claim, joined: CurveQ, CurveL, CurveLc, CurL, Lift, LiftG, DrawL.
-/
import Derived.Test.YtpcbeapajlchgaaRows
import Derived.ProofKit
import Derived.OpenShut
import Derived.Carry
import Derived.Lib.SmallJoins
import Derived.Test.YtpcbeapajlchgaaPu1
import Derived.Test.YtpcbeapajlchgaaPu2
import Derived.Test.YtpcbeapajlchgaaPu3
import Derived.Test.YtpcbeapajlchgaaPu4
/-
  What the answers on curves say of one another (plain), and the answers of HeadAt, FlowAt, RaiseCurve under one name.
-/
set_option linter.unusedVariables false
set_option linter.unusedSimpArgs false
namespace Go.Proofs.Ytpcbeapajlchgaa
open Go.RowKit

theorem low_exact {D : Int} (h : Int) (hD : 0 < D) : lowN (h * D) D = h ∧ lowD (h * D) D = 1 := by
  have e : gd (h * D) D = D := by
    unfold gd
    rw [Int.natAbs_mul, Nat.gcd_mul_left_left]
    omega
  unfold lowN lowD
  rw [e]
  exact ⟨Int.mul_tdiv_cancel h (by omega), Int.ediv_self (by omega)⟩
theorem low_one {a b : Int} (hb : 0 < b) (h : lowD a b = 1) : a = lowN a b * b := by
  have := low_eq (a := a) hb
  rw [h, Int.mul_one] at this
  exact this.symm
theorem seg_unique {n : Nat} {p : Nat → Prop} {j k : Nat} (hj : Seg n p j) (hk : Seg n p k) : j = k := by
  obtain ⟨a1, a2, a3, a4⟩ := hj
  obtain ⟨b1, b2, b3, b4⟩ := hk
  rcases Nat.lt_trichotomy j k with h | h | h
  · exact absurd a4 (b3 j a1 h)
  · exact h
  · exact absurd b4 (a3 k b1 h)
theorem pt_mono {l : List Pt} {n : Nat} (hg : goodCurve l = true) (hn : l.length = n) : ∀ (d j : Nat), 0 < d → j + d < n → (pt l j).1 < (pt l (j + d)).1 ∧ (pt l (j + d)).2 < (pt l j).2
  | 0, j, h, _ => by omega
  | d + 1, j, _, hk => by
    have h1 := pt_step hg hn (k := j + (d + 1)) (by omega) (by omega)
    rw [show j + (d + 1) - 1 = j + d by omega] at h1
    by_cases hd : d = 0
    · subst hd
      exact h1
    · have ih := pt_mono hg hn d j (by omega) (by omega)
      omega
theorem pt_lt {l : List Pt} {n j k : Nat} (hg : goodCurve l = true) (hn : l.length = n) (h : j < k) (hk : k < n) : (pt l j).1 < (pt l k).1 ∧ (pt l k).2 < (pt l j).2 := by
  have := pt_mono hg hn (k - j) j (by omega) (by omega)
  rwa [show j + (k - j) = k by omega] at this

/-- The segment of a head. -/
noncomputable def segH (l : List Pt) (q : Int) : Nat := by
  classical
  exact if h : ∃ k, Seg l.length (fun j => (pt l j).2 ≤ q) k then Classical.choose h else 0
theorem segH_is {l : List Pt} {q : Int} (h : ∃ k, Seg l.length (fun j => (pt l j).2 ≤ q) k) : Seg l.length (fun j => (pt l j).2 ≤ q) (segH l q) := by
  unfold segH
  rw [dif_pos h]
  exact Classical.choose_spec h
/-- What HeadAt, FlowAt return. -/
noncomputable def headR (l : List Pt) (q : Int) : Int × Int × Bool := if (goodCurve l && hasQ l l.length q) = true then (hN l l.length q, hD l l.length q, true) else (0, 0, false)
noncomputable def flowR (l : List Pt) (q : Int) : Int × Int × Bool := if (goodCurve l && hasH l l.length q) = true then (lowN (flN l (segH l q) q) (flD l (segH l q)), lowD (flN l (segH l q) q) (flD l (segH l q)), true) else (0, 0, false)

theorem i_HeadAt_is (a : Option Addr) (n c : Nat) (q : Int) (l : List Pt) (w : World) (h : PAt w a n l) (hn : n ≤ 1048576) (x y : Int) (z : Bool) (hR : headR l q = (x, y, z)) :
    Calls Try.prog 27 #[.slice a n c, .int .i64 q] w fun e w' => e = .returned (.tuple #[.int .i64 x, .int .i64 y, .bool z]) ∧ Below w.heap.size w w' := by
  have hl := h.1
  subst hl
  by_cases hc : (goodCurve l && hasQ l l.length q) = true
  · obtain ⟨h1, h2⟩ := (Bool.and_eq_true _ _).mp hc
    unfold headR at hR
    rw [if_pos hc] at hR
    simp only [Prod.mk.injEq] at hR
    obtain ⟨rfl, rfl, rfl⟩ := hR
    exact i_HeadAt_yes a _ c _ q l w h h1 h2 (segK_is (seg_flow h1 rfl h2))
  · have hc' : (goodCurve l && hasQ l l.length q) = false := by simpa using hc
    unfold headR at hR
    rw [if_neg hc] at hR
    simp only [Prod.mk.injEq] at hR
    obtain ⟨rfl, rfl, rfl⟩ := hR
    exact i_HeadAt_no a _ c q l w h hn hc'
theorem s_HeadAt_is (a : Option Addr) (n c : Nat) (q : Int) (l : List Pt) (w : World) (h : PAt w a n l) (hn : n ≤ 1048576) (x y : Int) (z : Bool) (hR : headR l q = (x, y, z)) :
    Calls Try.prog 26 #[.slice a n c, .int .i64 q] w fun e w' => e = .returned (.tuple #[.int .i64 x, .int .i64 y, .bool z]) ∧ Below w.heap.size w w' := by
  have hl := h.1
  subst hl
  by_cases hc : (goodCurve l && hasQ l l.length q) = true
  · obtain ⟨h1, h2⟩ := (Bool.and_eq_true _ _).mp hc
    unfold headR at hR
    rw [if_pos hc] at hR
    simp only [Prod.mk.injEq] at hR
    obtain ⟨rfl, rfl, rfl⟩ := hR
    exact s_HeadAt_yes a _ c _ q l w h h1 h2 (segK_is (seg_flow h1 rfl h2))
  · have hc' : (goodCurve l && hasQ l l.length q) = false := by simpa using hc
    unfold headR at hR
    rw [if_neg hc] at hR
    simp only [Prod.mk.injEq] at hR
    obtain ⟨rfl, rfl, rfl⟩ := hR
    exact s_HeadAt_no a _ c q l w h hn hc'
theorem i_FlowAt_is (a : Option Addr) (n c : Nat) (q : Int) (l : List Pt) (w : World) (h : PAt w a n l) (hn : n ≤ 1048576) (x y : Int) (z : Bool) (hR : flowR l q = (x, y, z)) :
    Calls Try.prog 25 #[.slice a n c, .int .i64 q] w fun e w' => e = .returned (.tuple #[.int .i64 x, .int .i64 y, .bool z]) ∧ Below w.heap.size w w' := by
  have hl := h.1
  subst hl
  by_cases hc : (goodCurve l && hasH l l.length q) = true
  · obtain ⟨h1, h2⟩ := (Bool.and_eq_true _ _).mp hc
    unfold flowR at hR
    rw [if_pos hc] at hR
    simp only [Prod.mk.injEq] at hR
    obtain ⟨rfl, rfl, rfl⟩ := hR
    exact i_FlowAt_yes a _ c _ q l w h h1 h2 (segH_is (seg_head h1 rfl h2))
  · have hc' : (goodCurve l && hasH l l.length q) = false := by simpa using hc
    unfold flowR at hR
    rw [if_neg hc] at hR
    simp only [Prod.mk.injEq] at hR
    obtain ⟨rfl, rfl, rfl⟩ := hR
    exact i_FlowAt_no a _ c q l w h hn hc'
theorem s_FlowAt_is (a : Option Addr) (n c : Nat) (q : Int) (l : List Pt) (w : World) (h : PAt w a n l) (hn : n ≤ 1048576) (x y : Int) (z : Bool) (hR : flowR l q = (x, y, z)) :
    Calls Try.prog 24 #[.slice a n c, .int .i64 q] w fun e w' => e = .returned (.tuple #[.int .i64 x, .int .i64 y, .bool z]) ∧ Below w.heap.size w w' := by
  have hl := h.1
  subst hl
  by_cases hc : (goodCurve l && hasH l l.length q) = true
  · obtain ⟨h1, h2⟩ := (Bool.and_eq_true _ _).mp hc
    unfold flowR at hR
    rw [if_pos hc] at hR
    simp only [Prod.mk.injEq] at hR
    obtain ⟨rfl, rfl, rfl⟩ := hR
    exact s_FlowAt_yes a _ c _ q l w h h1 h2 (segH_is (seg_head h1 rfl h2))
  · have hc' : (goodCurve l && hasH l l.length q) = false := by simpa using hc
    unfold flowR at hR
    rw [if_neg hc] at hR
    simp only [Prod.mk.injEq] at hR
    obtain ⟨rfl, rfl, rfl⟩ := hR
    exact s_FlowAt_no a _ c q l w h hn hc'

theorem head_seg {l : List Pt} {q : Int} {k : Nat} (hg : goodCurve l = true) (hk : Seg l.length (fun j => q ≤ (pt l j).1) k) (h0 : 0 ≤ q) : headR l q = (lowN (hdN l k q) (hdD l k), lowD (hdN l k q) (hdD l k), true) := by
  obtain ⟨k1, k2, k3, k4⟩ := hk
  have hq : hasQ l l.length q = true := by
    unfold hasQ
    refine inR_iff.2 ⟨h0, ?_⟩
    by_cases e : k = l.length - 1
    · rw [← e]; exact k4
    · have := (pt_lt hg rfl (j := k) (k := l.length - 1) (by omega) (by omega)).1
      omega
  unfold headR
  rw [if_pos (by rw [hg, hq]; rfl)]
  have e := seg_unique (segK_is (seg_flow hg rfl hq)) (⟨k1, k2, k3, k4⟩ : Seg l.length (fun j => q ≤ (pt l j).1) k)
  unfold hN hD
  rw [e]
/-- The head at the last flow. -/
theorem head_last {l : List Pt} (hg : goodCurve l = true) : headR l (pt l (l.length - 1)).1 = ((pt l (l.length - 1)).2, 1, true) := by
  have hl := good_len hg rfl
  have hp := pt_flow hg rfl (k := l.length - 1) (by omega)
  have hs : Seg l.length (fun j => (pt l (l.length - 1)).1 ≤ (pt l j).1) (l.length - 1) := ⟨by omega, by omega, fun j h1 h2 h3 => by have := (pt_lt hg rfl h2 (by omega)).1; omega, Int.le_refl _⟩
  rw [head_seg hg hs hp.1.1]
  have hst := (pt_lt hg rfl (j := l.length - 1 - 1) (k := l.length - 1) (by omega) (by omega)).1
  have e : hdN l (l.length - 1) (pt l (l.length - 1)).1 = (pt l (l.length - 1)).2 * hdD l (l.length - 1) := by unfold hdN hdD; grind
  have hD : 0 < hdD l (l.length - 1) := by unfold hdD; omega
  rw [e, (low_exact _ hD).1, (low_exact _ hD).2]
/-- The flow at the first head. -/
theorem flow_first {l : List Pt} (hg : goodCurve l = true) : flowR l (pt l 0).2 = (0, 1, true) := by
  have hl := good_len hg rfl
  have h01 := pt_lt hg rfl (j := 0) (k := 1) (by omega) (by omega)
  have hl0 : (pt l (l.length - 1)).2 ≤ (pt l 0).2 := by have := (pt_lt hg rfl (j := 0) (k := l.length - 1) (by omega) (by omega)).2; omega
  have hq : hasH l l.length (pt l 0).2 = true := inR_iff.2 ⟨hl0, Int.le_refl _⟩
  have hs : Seg l.length (fun j => (pt l j).2 ≤ (pt l 0).2) 1 := ⟨by omega, by omega, fun j h1 h2 => by omega, by show (pt l 1).2 ≤ _; omega⟩
  unfold flowR
  rw [if_pos (by rw [hg, hq]; rfl), seg_unique (segH_is ⟨1, hs⟩) hs]
  have hf := good_first hg
  have e : flN l 1 (pt l 0).2 = 0 * flD l 1 := by unfold flN; simp only [Nat.sub_self]; rw [hf]; simp
  have hD : 0 < flD l 1 := by unfold flD; simp only [Nat.sub_self]; omega
  rw [e, (low_exact _ hD).1, (low_exact _ hD).2]
/-- At a whole flow the head is that for which the flow was asked. -/
theorem flow_whole {l : List Pt} {q x : Int} (h : flowR l q = (x, 1, true)) : headR l x = (q, 1, true) := by
  unfold flowR at h
  split at h
  · rename_i h1
    obtain ⟨hg, hq⟩ := (Bool.and_eq_true _ _).mp h1
    obtain ⟨q1, q2⟩ := inR_iff.1 hq
    have hs := segH_is (seg_head hg rfl hq)
    generalize segH l q = k at h hs
    obtain ⟨k1, k2, k3, k4⟩ := hs
    simp only [Prod.mk.injEq, and_true] at h
    obtain ⟨hx, hd⟩ := h
    have h01 := pt_lt hg rfl (j := k - 1) (k := k) (by omega) (by omega)
    have hp := pt_flow hg rfl (k := k - 1) (by omega)
    have hD : 0 < flD l k := by unfold flD; omega
    have hN := low_one hD hd
    rw [hx] at hN
    have hprev : q ≤ (pt l (k - 1)).2 := by
      by_cases e : k = 1
      · subst e; exact q2
      · have := k3 (k - 1) (by omega) (by omega)
        omega
    unfold flN flD at hN
    -- x lies in the segment
    have hu : x ≤ (pt l k).1 := by
      apply Classical.byContradiction
      intro hc
      have h5 : ((pt l k).1 + 1) * ((pt l (k - 1)).2 - (pt l k).2) ≤ x * ((pt l (k - 1)).2 - (pt l k).2) := Int.mul_le_mul_of_nonneg_right (by omega) (by omega)
      have h6 : 0 ≤ ((pt l k).1 - (pt l (k - 1)).1) * (q - (pt l k).2) := Int.mul_nonneg (by omega) (by omega)
      grind
    have hlo : (pt l (k - 1)).1 ≤ x := by
      apply Classical.byContradiction
      intro hc
      have h5 : x * ((pt l (k - 1)).2 - (pt l k).2) ≤ ((pt l (k - 1)).1 - 1) * ((pt l (k - 1)).2 - (pt l k).2) := Int.mul_le_mul_of_nonneg_right (by omega) (by omega)
      have h6 : 0 ≤ ((pt l k).1 - (pt l (k - 1)).1) * ((pt l (k - 1)).2 - q) := Int.mul_nonneg (by omega) (by omega)
      grind
    have key : hdN l k x = q * hdD l k := by unfold hdN hdD; grind
    have hDD : 0 < hdD l k := by unfold hdD; omega
    by_cases hkk : k = 1 ∨ (pt l (k - 1)).1 < x
    · have hsx : Seg l.length (fun j => x ≤ (pt l j).1) k := by
        refine ⟨k1, k2, fun j j1 j2 j3 => ?_, hu⟩
        rcases hkk with e | e
        · omega
        · by_cases e2 : j = k - 1
          · subst e2; omega
          · have := (pt_lt hg rfl (j := j) (k := k - 1) (by omega) (by omega)).1; omega
      rw [head_seg hg hsx (by omega), key, (low_exact _ hDD).1, (low_exact _ hDD).2]
    · -- at the segment's beginning the head is that point's, which lies above
      exfalso
      have hx1 : x = (pt l (k - 1)).1 := by omega
      have hk1 := k3 (k - 1) (by omega) (by omega)
      have h5 : 0 < ((pt l k).1 - (pt l (k - 1)).1) * ((pt l (k - 1)).2 - q) := Int.mul_pos (by omega) (by omega)
      rw [hx1] at hN
      generalize (pt l k).1 = b1 at h5 hN
      generalize (pt l (k - 1)).1 = a1 at h5 hN
      generalize (pt l k).2 = b2 at h5 hN
      generalize (pt l (k - 1)).2 = a2 at h5 hN
      have e : (b1 - a1) * (a2 - q) = a1 * (q - b2) + b1 * (a2 - q) - a1 * (a2 - b2) := by grind
      rw [e, hN] at h5
      omega
  · cases h

end Go.Proofs.Ytpcbeapajlchgaa

/-
  Lists of curves: rows of a slice of slices, and sums of fractions (plain).
-/
set_option linter.unusedVariables false
set_option linter.unusedSimpArgs false
namespace Go.Proofs.Ytpcbeapajlchgaa
open Go.RowKit

theorem SAt.stay {α : Type} [Inhabited α] {f : α → List Value} {s n : Nat} {w w' : World} {a : Option Addr} {l : List α} {row : Option Nat} (h : SAt f s w a n l) (hg : w.grownBy w' row) (hne : ∀ b o, a = some ⟨b, o, none⟩ → some b ≠ row) : SAt f s w' a n l :=
  ⟨h.1, fun k hk => by
    obtain ⟨b, o, h1, h2, h3⟩ := h.2 k hk
    refine ⟨b, o, h1, Nat.lt_of_lt_of_le h2 hg.size, fun j hj => ?_⟩
    rw [← h3 j hj]
    unfold World.cell?
    rw [hg.block b h2 (hne b o h1)]⟩
/-- A row of a slice of slices: its value. -/
abbrev CRow := Option Addr × Nat × Nat
def rf (r : CRow) : List Value := [.slice r.1 r.2.1 r.2.2]
theorem rf_len (r : CRow) : (rf r).length = 1 := rfl
theorem rf_one (r : CRow) : ∀ u ∈ rf r, u.oneCell' = true := by intro u hu; simp [rf] at hu; subst hu; rfl
def row (R : List CRow) (k : Nat) : CRow := R[k]?.getD default
/-- Curve k of a list. -/
def lk (L : List (List Pt)) (k : Nat) : List Pt := L[k]?.getD []
/-- A list of curves that can be read. -/
def LAt (w : World) (a : Option Addr) (n : Nat) (L : List (List Pt)) : Prop := L.length = n ∧ ∃ R : List CRow, SAt rf 1 w a n R ∧ ∀ k, k < n → PAt w (row R k).1 (row R k).2.1 (lk L k)
theorem LAt.below {w w' : World} {a : Option Addr} {n : Nat} {L : List (List Pt)} (h : LAt w a n L) (hb : Below w.heap.size w w') : LAt w' a n L :=
  let ⟨h0, R, h1, h2⟩ := h
  ⟨h0, R, h1.below hb, fun k hk => (h2 k hk).below hb⟩
theorem LAt.get {w : World} {a : Option Addr} {n : Nat} {L : List (List Pt)} (h : LAt w a n L) (k : Nat) (hk : k < n) :
    ∃ b off pa pn pc, a = some ⟨b, off, none⟩ ∧ b < w.heap.size ∧ w.cell? ⟨b, off + k, none⟩ = some (.slice pa pn pc) ∧ PAt w pa pn (lk L k) := by
  obtain ⟨h0, R, hs, hr⟩ := h
  obtain ⟨b, off, h1, h2, h3⟩ := hs.2 k hk
  have := h3 0 (by decide)
  simp only [Nat.mul_one, Nat.add_zero] at this
  exact ⟨b, off, _, _, _, h1, h2, this, hr k hk⟩
theorem LAt.nil (w : World) (a : Option Addr) : LAt w a 0 [] := ⟨rfl, [], SAt.nil _ _, fun k hk => absurd hk (by omega)⟩

/-- The sum of two fractions. -/
def addP (x y : Int × Int) : Int × Int := (lowN (x.1 * y.2 + y.1 * x.2) (x.2 * y.2), lowD (x.1 * y.2 + y.1 * x.2) (x.2 * y.2))
def sumK (v : Nat → Int × Int) : Nat → Int × Int
  | 0 => (0, 1)
  | k + 1 => addP (sumK v k) (v k)
/-- A fraction that a curve has. -/
abbrev small (y : Int × Int) : Prop := (0 < y.2 ∧ y.2 ≤ 1000) ∧ (-4000000 ≤ y.1 ∧ y.1 ≤ 4000000)
abbrev sumOk (k : Nat) (x : Int × Int) : Prop := (0 < x.2 ∧ x.2 ≤ 1000 ^ k) ∧ (-(4000 * (k : Int) * 1000 ^ k) ≤ x.1 ∧ x.1 ≤ 4000 * (k : Int) * 1000 ^ k)
abbrev addOk (x y : Int × Int) : Prop := (-4000000000000000000 ≤ x.1 * y.2 ∧ x.1 * y.2 ≤ 4000000000000000000) ∧ (-4000000000000000000 ≤ y.1 * x.2 ∧ y.1 * x.2 ≤ 4000000000000000000) ∧ fine (x.1 * y.2 + y.1 * x.2) ∧ fine (x.2 * y.2) ∧ 0 < x.2 * y.2
theorem add_fits {k : Nat} {x y : Int × Int} (hk : k < 4) (hx : sumOk k x) (hy : small y) : addOk x y ∧ sumOk (k + 1) (addP x y) := by
  obtain ⟨⟨x1, x2⟩, x3, x4⟩ := hx
  obtain ⟨⟨y1, y2⟩, y3, y4⟩ := hy
  have hp : 0 < x.2 * y.2 := Int.mul_pos x1 y1
  have key : ∀ (D : Int), 0 ≤ D → D ≤ 1000000000 → x.2 ≤ D → ∀ (M : Int), 0 ≤ M → M ≤ 12000000000000 → -M ≤ x.1 → x.1 ≤ M → ∀ D' M' : Int, D' = D * 1000 → M' = M * 1000 + 4000000 * D → M' ≤ 1000000000000000000 → addOk x y ∧ (0 < (addP x y).2 ∧ (addP x y).2 ≤ D') ∧ (-M' ≤ (addP x y).1 ∧ (addP x y).1 ≤ M') := by
    intro D d0 d1 d2 M m0 m1 m2 m3 D' M' e1 e2 e3
    have p1 := mul_in (x := x.1) (y := y.2) (A := M) (B := 1000) ⟨m2, m3⟩ ⟨by omega, y2⟩
    have p2 := mul_in (x := y.1) (y := x.2) (A := 4000000) (B := D) ⟨y3, y4⟩ ⟨by omega, d2⟩
    have p3 := mul_in (x := x.2) (y := y.2) (A := D) (B := 1000) ⟨by omega, d2⟩ ⟨by omega, y2⟩
    have hn : -M' ≤ x.1 * y.2 + y.1 * x.2 ∧ x.1 * y.2 + y.1 * x.2 ≤ M' := by omega
    have q1 := lowN_fine (b := x.2 * y.2) hp hn
    have q2 := lowD_le (a := x.1 * y.2 + y.1 * x.2) hp
    have q3 := lowD_pos (a := x.1 * y.2 + y.1 * x.2) hp
    refine ⟨⟨by omega, by omega, by omega, by omega, hp⟩, ⟨q3, ?_⟩, q1⟩
    show lowD _ _ ≤ D'
    omega
  have hc : k = 0 ∨ k = 1 ∨ k = 2 ∨ k = 3 := by omega
  rcases hc with rfl | rfl | rfl | rfl
  · obtain ⟨k1, k2, k3⟩ := key 1 (by omega) (by omega) (by simpa using x2) 0 (by omega) (by omega) (by simpa using x3) (by simpa using x4) 1000 4000000 (by omega) (by omega) (by omega)
    exact ⟨k1, by simpa using k2, by simpa using k3⟩
  · obtain ⟨k1, k2, k3⟩ := key 1000 (by omega) (by omega) (by simpa using x2) 4000000 (by omega) (by omega) (by simpa using x3) (by simpa using x4) 1000000 8000000000 (by omega) (by omega) (by omega)
    exact ⟨k1, by simpa using k2, by simpa using k3⟩
  · obtain ⟨k1, k2, k3⟩ := key 1000000 (by omega) (by omega) (by simpa using x2) 8000000000 (by omega) (by omega) (by simpa using x3) (by simpa using x4) 1000000000 12000000000000 (by omega) (by omega) (by omega)
    exact ⟨k1, by simpa using k2, by simpa using k3⟩
  · obtain ⟨k1, k2, k3⟩ := key 1000000000 (by omega) (by omega) (by simpa using x2) 12000000000000 (by omega) (by omega) (by simpa using x3) (by simpa using x4) 1000000000000 16000000000000000 (by omega) (by omega) (by omega)
    exact ⟨k1, by simpa using k2, by simpa using k3⟩
theorem sumK_fit {v : Nat → Int × Int} {n : Nat} (hn : n ≤ 4) (hv : ∀ j, j < n → small (v j)) : ∀ k, k ≤ n → sumOk k (sumK v k)
  | 0, _ => by simp [sumOk, sumK]
  | k + 1, hk => (add_fits (by omega) (sumK_fit hn hv k (by omega)) (hv k (by omega))).2

/-- The head and the flow of a curve, as fractions. -/
noncomputable def headP (l : List Pt) (q : Int) : Int × Int := ((headR l q).1, (headR l q).2.1)
noncomputable def flowP (l : List Pt) (q : Int) : Int × Int := if (pt l 0).2 < q then (0, 1) else if q < (pt l (l.length - 1)).2 then ((pt l (l.length - 1)).1, 1) else ((flowR l q).1, (flowR l q).2.1)

theorem headR_ok {l : List Pt} {q : Int} (hg : goodCurve l = true) (hq : hasQ l l.length q = true) : headR l q = ((headP l q).1, (headP l q).2, true) ∧ small (headP l q) := by
  obtain ⟨h1, h2, h3⟩ := h_fit hg rfl hq
  have e : headR l q = (hN l l.length q, hD l l.length q, true) := by unfold headR; rw [if_pos (by rw [hg, hq]; rfl)]
  unfold headP
  rw [e]
  exact ⟨rfl, h3, h2⟩
theorem headR_bad {l : List Pt} {q : Int} (h : goodCurve l = false ∨ hasQ l l.length q = false) : headR l q = (0, 0, false) := by
  unfold headR
  rw [if_neg]
  rcases h with h | h <;> simp [h]
theorem flow_fit {l : List Pt} {q : Int} (hg : goodCurve l = true) (hq : hasH l l.length q = true) : flowR l q = ((flowR l q).1, (flowR l q).2.1, true) ∧ small ((flowR l q).1, (flowR l q).2.1) := by
  have hs := segH_is (seg_head hg rfl hq)
  have hl := good_len hg rfl
  have hp := pt_flow hg rfl (k := l.length - 1) (by omega)
  have hp0 := pt_flow hg rfl (k := 0) (by omega)
  have hq2 : 0 ≤ q ∧ q ≤ 1000 := by have := inR_iff.1 hq; omega
  have e : flowR l q = (lowN (flN l (segH l q) q) (flD l (segH l q)), lowD (flN l (segH l q) q) (flD l (segH l q)), true) := by unfold flowR; rw [if_pos (by rw [hg, hq]; rfl)]
  rw [e]
  obtain ⟨k1, k2, -, -⟩ := hs
  obtain ⟨p1, p2⟩ := pt_flow hg rfl (k := segH l q - 1) (by omega)
  obtain ⟨p3, p4⟩ := pt_flow hg rfl (k := segH l q) (by omega)
  obtain ⟨p5, p6⟩ := pt_step hg rfl (k := segH l q) (by omega) (by omega)
  have q1 := mul_in (x := (pt l (segH l q - 1)).1) (y := q - (pt l (segH l q)).2) (A := 1000) (B := 1000) (by omega) (by omega)
  have q2 := mul_in (x := (pt l (segH l q)).1) (y := (pt l (segH l q - 1)).2 - q) (A := 1000) (B := 1000) (by omega) (by omega)
  simp only [Int.reduceMul] at q1 q2
  have hd : 0 < flD l (segH l q) ∧ flD l (segH l q) ≤ 1000 := by unfold flD; omega
  have hnn : -4000000 ≤ flN l (segH l q) q ∧ flN l (segH l q) q ≤ 4000000 := by unfold flN; omega
  have c1 := lowN_fine (a := flN l (segH l q) q) hd.1 hnn
  have c2 := lowD_le (a := flN l (segH l q) q) hd.1
  have c3 := lowD_pos (a := flN l (segH l q) q) hd.1
  exact ⟨rfl, ⟨c3, by dsimp only; omega⟩, c1⟩
theorem flowP_small {l : List Pt} (q : Int) (hg : goodCurve l = true) : small (flowP l q) := by
  have hl := good_len hg rfl
  have hp := pt_flow hg rfl (k := l.length - 1) (by omega)
  unfold flowP
  split
  · exact ⟨by decide, by decide⟩
  · split
    · exact ⟨by dsimp only; omega, by dsimp only; omega⟩
    · exact (flow_fit hg (inR_iff.2 ⟨by omega, by omega⟩)).2

/-- A fraction in lowest terms stays. -/
theorem low_low {a b : Int} (h : 0 < b) : gd (lowN a b) (lowD a b) = 1 := by
  have hg := gd_pos (a := a) h
  obtain ⟨x, hx⟩ := gd_dvdN a b
  obtain ⟨y, hy⟩ := gd_dvd a b
  have e1 : lowN a b = x := by
    unfold lowN
    generalize hG : gd a b = G at *
    rw [hx]; exact Int.mul_tdiv_cancel_left _ (by omega)
  have e2 : lowD a b = y := by
    unfold lowD
    generalize hG : gd a b = G at *
    rw [hy]; exact Int.mul_ediv_cancel_left _ (by omega)
  rw [e1, e2]
  have e3 : gd a b = gd (gd a b * x) (gd a b * y) := by rw [← hx, ← hy]
  have e4 : gd (gd a b * x) (gd a b * y) = gd a b * gd x y := by
    generalize hG : gd a b = G at *
    unfold gd
    rw [Int.natAbs_mul, Int.natAbs_mul, Nat.gcd_mul_left, Int.natCast_mul]
    congr 1
    omega
  rw [e4] at e3
  have e5 : gd a b * 1 = gd a b * gd x y := by omega
  exact (Int.eq_of_mul_eq_mul_left (by omega) e5).symm
theorem low_same {a b : Int} (h : gd a b = 1) : lowN a b = a ∧ lowD a b = b := by
  unfold lowN lowD
  rw [h]
  simp
theorem sum_low (v : Nat → Int × Int) {n : Nat} (hv : ∀ j, j < n → 0 < (v j).2) : ∀ k, k ≤ n → gd (sumK v k).1 (sumK v k).2 = 1 ∧ 0 < (sumK v k).2
  | 0, _ => by simp [sumK, gd]
  | k + 1, hk => by
    have ih := sum_low v hv k (by omega)
    have hp : 0 < (sumK v k).2 * (v k).2 := Int.mul_pos ih.2 (hv k (by omega))
    exact ⟨low_low hp, lowD_pos hp⟩
theorem add_zero {x : Int × Int} (h : gd x.1 x.2 = 1) : addP x (0, 1) = x := by
  unfold addP
  simp only [Int.mul_one, Int.zero_mul, Int.add_zero]
  rw [(low_same h).1, (low_same h).2]
/-- The sum of two fractions is their sum. -/
theorem add_eq {x y : Int × Int} (hx : 0 < x.2) (hy : 0 < y.2) : (addP x y).1 * (x.2 * y.2) = (x.1 * y.2 + y.1 * x.2) * (addP x y).2 := low_eq (Int.mul_pos hx hy)
theorem add_first {y : Int × Int} (h : gd y.1 y.2 = 1) : addP (0, 1) y = y := by
  unfold addP
  simp only [Int.zero_mul, Int.mul_one, Int.one_mul, Int.zero_add]
  rw [(low_same h).1, (low_same h).2]

theorem all_bad {L : List (List Pt)} {p : List Pt → Bool} {k : Nat} (hk : k < L.length) (h : p (lk L k) = false) : L.all p = false := by
  rw [List.all_eq_false]
  refine ⟨lk L k, ?_, by simp [h]⟩
  unfold lk
  rw [List.getElem?_eq_getElem hk]
  exact List.getElem_mem hk
theorem all_good {L : List (List Pt)} {p : List Pt → Bool} (h : ∀ k, k < L.length → p (lk L k) = true) : L.all p = true := by
  rw [List.all_eq_true]
  intro x hx
  obtain ⟨j, hj, rfl⟩ := List.mem_iff_getElem.1 hx
  have := h j hj
  unfold lk at this
  rw [List.getElem?_eq_getElem hj] at this
  exact this
theorem all_get {L : List (List Pt)} {p : List Pt → Bool} (h : L.all p = true) {k : Nat} (hk : k < L.length) : p (lk L k) = true := by
  cases e : p (lk L k)
  · rw [all_bad hk e] at h; cases h
  · rfl
/-- What SeriesHead and ParallelFlow return. -/
noncomputable def seriesR (L : List (List Pt)) (q : Int) : Int × Int × Bool := if (inR (L.length : Int) 1 4 && L.all (fun l => goodCurve l && hasQ l l.length q)) = true then ((sumK (fun k => headP (lk L k) q) L.length).1, (sumK (fun k => headP (lk L k) q) L.length).2, true) else (0, 0, false)
noncomputable def parR (L : List (List Pt)) (q : Int) : Int × Int × Bool := if (inR (L.length : Int) 1 4 && L.all goodCurve && inR q 0 1000) = true then ((sumK (fun k => flowP (lk L k) q) L.length).1, (sumK (fun k => flowP (lk L k) q) L.length).2, true) else (0, 0, false)

end Go.Proofs.Ytpcbeapajlchgaa

/-
  Lists of curves: the laws' own conversions.
-/
set_option linter.unusedVariables false
set_option linter.unusedSimpArgs false
namespace Go.Proofs.Ytpcbeapajlchgaa
open Go.RowKit

theorem Try.infoRow : (Try.prog.info? 25).map (fun i => (i.zero, i.size, i.bytes)) = some (some (.slice none 0 0), 1, 24) := by kernel_rfl

theorem l_szPts (a : Option Addr) (n c : Nat) (left : Int) (w : World) (hl : 0 ≤ left ∧ left ≤ 1048576) (hn : n ≤ 9223372036854775807) : Calls Try.prog 15 #[.slice a n c, .int .i64 left] w fun e w' => e = .returned (.int .i64 (if left < (n : Int) then -1 else left - (n : Int))) ∧ w = w' := by
  by_cases h : left < (n : Int)
  · rw [if_pos h]
    go_enter Try.func15, Try.ntmps15
    go_wp2
    go_ret
    exact ⟨rfl, rfl⟩
  · rw [if_neg h]
    go_enter Try.func15, Try.ntmps15
    go_wp2
    go_ret
    exact ⟨rfl, rfl⟩

/-- The lengths of a list of curves are not too great. -/
abbrev lensOk (n : Nat) (L : List (List Pt)) : Prop := n ≤ 1048576 ∧ ∀ k, k < n → (lk L k).length ≤ 1048576

set_option maxHeartbeats 1000000 in
theorem l_szCurvePointSS (a : Option Addr) (n c : Nat) (L : List (List Pt)) (w : World) (h : LAt w a n L) (hn : n ≤ 9223372036854775807) (hn2 : ∀ k, k < n → (lk L k).length ≤ 9223372036854775807) :
    Calls Try.prog 34 #[.slice a n c, .int .i64 1048576] w fun e w' => ∃ v : Int, e = .returned (.int .i64 v) ∧ (v < 0 ∨ (0 ≤ v ∧ lensOk n L)) ∧ w = w' := by
  have H := hid h
  have HN := hid hn2
  clear h hn2
  by_cases h1 : 1048576 < n
  · go_enter Try.func34, Try.ntmps34
    go_wp2
    go_ret
    exact ⟨-1, rfl, .inl (by omega), rfl⟩
  · go_enter Try.func34, Try.ntmps34
    go_wp2
    go_loopg [1, 5] n (fun g s i wr => ∃ (k : Nat) (v : Int), k ≤ n ∧ g = n - k ∧ s = .int .i64 v ∧ i = .int .i64 k ∧ (0 ≤ v ∧ v ≤ 1048576) ∧ w = wr ∧ Hid (∀ j, j < k → (lk L j).length ≤ 1048576))
    case atStart => exact ⟨0, _, Nat.zero_le _, rfl, rfl, rfl, by omega, rfl, hid (fun j hj => by omega)⟩
    case round =>
      obtain ⟨k, v, hk, rfl, rfl, rfl, hv, rfl, hh⟩ := hrel
      by_cases hlt : k < n
      · obtain ⟨b, off, pa, pn, pc, rfl, hb, x0, hp⟩ := LAt.get H.out k hlt
        have hpn : pn ≤ 9223372036854775807 := by rw [← hp.1]; exact HN.out k hlt
        have HP := hid hp.1
        clear hp
        go_wp2_with fail
        refine (l_szPts _ _ _ _ _ hv hpn).mono ?_
        rintro e _ ⟨rfl, rfl⟩
        by_cases hs : v < (pn : Int)
        · rw [if_pos hs]
          go_wp2
          go_ret
          exact ⟨-1, rfl, .inl (by omega), rfl⟩
        · rw [if_neg hs]
          have hs2 : ¬ v - (pn : Int) < 0 := by omega
          go_wp2
          go_roundg (n - (k + 1))
          case rel =>
            refine ⟨k + 1, _, by omega, rfl, rfl, by go_num, by omega, rfl, hid (fun j hj => ?_)⟩
            by_cases e : j = k
            · subst e; rw [HP.out]; omega
            · exact hh.out j (by omega)
          case measure => omega
      · obtain rfl : n = k := by omega
        go_wp2
        go_ret
        exact ⟨v, rfl, .inr ⟨hv.1, by omega, hh.out⟩, rfl⟩

set_option maxHeartbeats 2000000 in
theorem l_toCurvePointSS (a : Option Addr) (n c : Nat) (L : List (List Pt)) (w : World) (h : LAt w a n L) (hn : lensOk n L) :
    Calls Try.prog 36 #[.slice a n c] w fun e w' => ∃ a' c', e = .returned (.slice a' n c') ∧ LAt w' a' n L ∧ Below w.heap.size w w' := by
  obtain ⟨i0, hi, hz0, hz1, hz2⟩ := info_parts Try.infoRow
  have H := hid h
  have HLN := hid h.1
  have HN := hid hn
  have hn1 := hn.1
  clear h hn
  have HI := hid hi
  have HZ := hid hz0
  have HZ1 := hid hz1
  have HZ2 := hid hz2
  clear hi hz0 hz1 hz2
  go_enter Try.func36, Try.ntmps36
  go_wp2_with (at_make; refine wpList_make_full _ rfl _ _ 43 rfl w.heap.size 25 i0 (.slice none 0 0) 1 Try.underlying43 HI.out HZ.out HZ1.out _ _ _ _ n rfl rfl rfl rfl ?b2 ?b3 ?b4 ?_)
  case b2 => rw [HZ2.out]; omega
  case b3 => unfold maxLen; omega
  case b4 => exact Nat.le_refl _
  intro w1 hown hgrow
  have ho : OwnS rf 1 25 w1 w.heap.size _ (List.replicate n ((none, 0, 0) : CRow)) := OwnS.of_row rf_len (by decide) (n := n) (by have e := madeFlat rf 1 rf_len (by decide) ((none, 0, 0) : CRow) #[.slice none 0 0] rfl n; rw [Nat.mul_one] at e; rw [← e]; exact hown)
  have HO := hid ho
  have HB := hid (below_of_grown hgrow (Nat.le_refl _) (fun k hk => by simp at hk))
  clear hown ho hgrow
  go_wp2
  go_loopg [4] n (fun g i wr => ∃ (k : Nat) (R : List CRow), k ≤ n ∧ g = n - k ∧ i = .int .i64 k ∧ Hid (OwnS rf 1 25 wr w.heap.size (.slice (some ⟨w.heap.size, 0, none⟩) n n) R ∧ (∀ j, j < k → PAt wr (row R j).1 (row R j).2.1 (lk L j) ∧ ∀ b o, (row R j).1 = some ⟨b, o, none⟩ → w.heap.size < b) ∧ Below w.heap.size w wr))
  case atStart => exact ⟨0, List.replicate n (none, 0, 0), Nat.zero_le _, rfl, rfl, hid ⟨HO.out, fun j hj => by omega, HB.out⟩⟩
  case round =>
    obtain ⟨k, R, hk, rfl, rfl, hh⟩ := hrel
    clear HO HB
    by_cases hlt : k < n
    · obtain ⟨b, off, pa, pn, pc, rfl, hbw, x0, hp⟩ := LAt.get (H.out.below hh.out.2.2) k hlt
      have hpn : pn ≤ 1048576 := by rw [← hp.1]; exact HN.out.2 k hlt
      have hfr := OwnS.frozen (j := k) hh.out.1
      obtain ⟨v0, y0⟩ : ∃ v, wr.cell? ⟨w.heap.size, k, none⟩ = some v := by
        obtain ⟨b', o', e', -, y⟩ := (OwnS.at rf_len hh.out.1).2 k hlt
        simp only [Option.some.injEq, Addr.mk.injEq, and_true] at e'
        obtain ⟨rfl, rfl⟩ := e'
        have := y 0 (by decide)
        simp only [Nat.mul_one, Nat.add_zero, Nat.zero_add] at this
        exact ⟨_, this⟩
      have hw1 : w.heap.size < wr.heap.size := (OwnS.lt hh.out.1 _ rfl).2
      go_wp2_with fail
      refine (l_toCurvePointS _ _ _ (lk L k) _ hp hpn).mono ?_
      rintro e w2 ⟨a2, c2, rfl, ho2, hb⟩
      obtain ⟨hc, hf⟩ := bcell hb
      have O2 := hid ho2
      have B2 := hid hb
      clear ho2 hp
      go_wp2
      go_roundg (n - (k + 1))
      case rel =>
        have hlR := OwnS.len hh.out.1
        obtain ⟨o1, g1⟩ := OwnS.set rf_len (by decide) (hh.out.1.below B2.out) hlt (j := 0) (by decide) (.slice a2 pn c2) ((a2, pn, c2) : CRow) rfl
        simp only [Nat.mul_one, Nat.add_zero] at o1 g1
        refine ⟨k + 1, R.set k (a2, pn, c2), by omega, rfl, by go_num, hid ⟨o1, fun j hj => ?_, (bstep hh.out.2.2 B2.out).grown g1 (by have := B2.out.size; omega) (fun q hq => by simp at hq; omega)⟩⟩
        by_cases e : j = k
        · subst e
          have er : row (R.set j (a2, pn, c2)) j = (a2, pn, c2) := by unfold row; rw [List.getElem?_set_self (by omega)]; rfl
          rw [er]
          have hge : ∀ b o, a2 = some ⟨b, o, none⟩ → w.heap.size < b := fun b o e => by
            rcases (show w2.ownsRow _ _ _ _ _ _ from O2.out).2 with ⟨h1, h0⟩ | ⟨g, cap, cur, h1, h2, -⟩
            · simp only [Value.slice.injEq] at h1
              rw [h1.1] at e; cases e
            · simp only [Value.slice.injEq] at h1
              rw [h1.1] at e
              simp only [Option.some.injEq, Addr.mk.injEq] at e
              obtain ⟨rfl, -⟩ := e
              omega
          exact ⟨SAt.stay (OwnS.at pf_len O2.out) g1 (fun b o e e2 => by have := hge b o e; have := Option.some.inj e2; omega), hge⟩
        · have er : row (R.set k (a2, pn, c2)) j = row R j := by unfold row; rw [List.getElem?_set_ne (by omega)]
          rw [er]
          obtain ⟨q1, q2⟩ := hh.out.2.1 j (by omega)
          exact ⟨SAt.stay (q1.below B2.out) g1 (fun b o e e2 => by have := q2 b o e; have := Option.some.inj e2; omega), q2⟩
      case measure => omega
    · obtain rfl : n = k := by omega
      go_wp2
      go_ret
      exact ⟨_, _, rfl, ⟨HLN.out, R, OwnS.at rf_len hh.out.1, fun j hj => (hh.out.2.1 j hj).1⟩, hh.out.2.2⟩

set_option maxHeartbeats 2000000 in
theorem l_eqCurvePointSS (a b : Option Addr) (n c d : Nat) (L : List (List Pt)) (w : World) (h : LAt w a n L) (h' : LAt w b n L) (hn : lensOk n L) :
    Calls Try.prog 38 #[.slice a n c, .slice b n d] w fun e w' => e = .returned (.bool true) ∧ Below w.heap.size w w' := by
  have H := hid h
  have H' := hid h'
  have HN := hid hn
  have hn1 := hn.1
  clear h h' hn
  go_enter Try.func38, Try.ntmps38
  go_wp2
  go_loopg [5] n (fun g i wr => ∃ k : Nat, k ≤ n ∧ g = n - k ∧ i = .int .i64 k ∧ Hid (Below w.heap.size w wr))
  case atStart => exact ⟨0, Nat.zero_le _, rfl, rfl, Below.refl _ _⟩
  case round =>
    obtain ⟨k, hk, rfl, rfl, hh⟩ := hrel
    by_cases hlt : k < n
    · obtain ⟨b1, off1, pa, pn, pc, rfl, hb1, x0, hp⟩ := LAt.get (H.out.below hh.out) k hlt
      obtain ⟨b2, off2, qa, qn, qc, rfl, hb2, y0, hq⟩ := LAt.get (H'.out.below hh.out) k hlt
      have hpn : pn ≤ 1048576 := by rw [← hp.1]; exact HN.out.2 k hlt
      have e : qn = pn := by rw [← hp.1, ← hq.1]
      subst e
      have HP := hid hp
      have HQ := hid hq
      clear hp hq
      go_upto_region 6 with fail
      have X := hid (show Below w.heap.size w wr.drew ∧ wr.drew.cell? ⟨b1, off1 + k, none⟩ = some (.slice pa qn pc) ∧ wr.drew.cell? ⟨b2, off2 + k, none⟩ = some (.slice qa qn qc) ∧ PAt wr.drew pa qn (lk L k) ∧ PAt wr.drew qa qn (lk L k) from ⟨hh.out.drew, x0, y0, HP.out, HQ.out⟩)
      clear x0 y0
      refine wp_region_calm (C := (fun w' => Below w.heap.size w w' ∧ w'.cell? ⟨b1, off1 + k, none⟩ = some (.slice pa qn pc) ∧ w'.cell? ⟨b2, off2 + k, none⟩ = some (.slice qa qn qc) ∧ PAt w' pa qn (lk L k) ∧ PAt w' qa qn (lk L k))) (by kernel_rfl) (by kernel_rfl) (X.out) ?_
      repeat
        first
          | go_big_quiet_skip
          | (go_big_quiet_want
             first
               | (unfold Oper.quiet
                  apply Exists.intro
                  refine ⟨fun wq hq => ?_, ?_⟩
                  · (try dsimp only at hq
                     simp [go_sem, Oper.quietAt, Oper.quietUpon, BigFrame.eval_const, BigFrame.eval_global, BigFrame.eval_func, ↓IntWalk.iteOmega, *]
                     first | done | rfl | (refine calm_call hq (fun wy w5 hc hb => ⟨bstep hc.1 hb, (hb.cell (World.block_lt_of_cell? wy _ hc.2.1)).trans hc.2.1, (hb.cell (World.block_lt_of_cell? wy _ hc.2.2.1)).trans hc.2.2.1, hc.2.2.2.1.below hb, hc.2.2.2.2.below hb⟩) (l_eqCurvePointS _ _ _ _ _ (lk L k) _ hq.2.2.2.1 hq.2.2.2.2 hpn) rfl))
                  simp only [Act.put, List.setIfInBounds_toArray, List.set_cons_succ, List.set_cons_zero]
                  go_big_quiet_on))
      refine wpQuiet_nil ?_
      intro wc hcalm
      try dsimp only at hcalm
      have HC := hid hcalm.1
      clear hcalm
      go_wp2
      go_roundg (n - (k + 1))
      case rel => exact ⟨k + 1, by omega, rfl, by go_num, hid HC.out⟩
      case measure => omega
    · obtain rfl : n = k := by omega
      go_wp2
      go_ret
      exact ⟨rfl, hh.out⟩

end Go.Proofs.Ytpcbeapajlchgaa

/-
  A list of curves' draw.
-/
set_option linter.unusedVariables false
set_option linter.unusedSimpArgs false
namespace Go.Proofs.Ytpcbeapajlchgaa
open Go.RowKit

/-- A list of curves in the making, and the cursor. -/
structure LB (w W : World) (g K : Nat) (a : Option Addr) (n c : Nat) (R : List CRow) (L : List (List Pt)) : Prop where
  cur : Cur W g K
  gro : w.grownBy W (some g)
  own : OwnS rf 1 25 W w.heap.size (.slice a n c) R
  len : L.length = n
  rows : ∀ k, k < n → PAt W (row R k).1 (row R k).2.1 (lk L k) ∧ (1 ≤ (lk L k).length ∧ (lk L k).length ≤ 7) ∧ ∀ b o, (row R k).1 = some ⟨b, o, none⟩ → w.heap.size ≤ b ∧ Value.ownBlock (.slice a n c) ≠ some b
  gb : g < w.heap.size
section
variable {w W W' : World} {g K n c : Nat} {a : Option Addr} {R : List CRow} {L : List (List Pt)}
theorem LB.step {K' : Nat} (h : LB w W g K a n c R L) (hc : Cur W' g K') (hg : W.grownBy W' (some g)) : LB w W' g K' a n c R L := by
  have hgb := h.gb
  refine ⟨hc, grownBy_trans h.gro hg, h.own.kept hg ?_, h.len, fun k hk => ?_, h.gb⟩
  · cases e : Value.ownBlock (.slice a n c) with
    | none => exact .inl rfl
    | some q => exact .inr (fun e2 => by have h1 := (OwnS.lt h.own q e).1; have := Option.some.inj e2; omega)
  · obtain ⟨h1, h2, h3⟩ := h.rows k hk
    exact ⟨SAt.kept h1 hg (fun b o e e2 => by have := (h3 b o e).1; have := Option.some.inj e2; omega), h2, h3⟩
theorem LB.le {K' : Nat} (h : LB w W g K a n c R L) (hk : K ≤ K') : LB w W g K' a n c R L := ⟨h.cur.le hk, h.gro, h.own, h.len, h.rows, h.gb⟩
theorem LB.fresh (h : LB w W g K a n c R L) : ∀ b o, a = some ⟨b, o, none⟩ → w.heap.size ≤ b := fun b o e => by
  subst e
  exact (OwnS.lt h.own b rfl).1
theorem LB.atk (h : LB w W g K a n c R L) (hg : W.grownBy W' (some g)) : LAt W' a n L := by
  have hgb := h.gb
  refine ⟨h.len, R, OwnS.at rf_len (h.own.kept hg ?_), fun k hk => ?_⟩
  · cases e : Value.ownBlock (.slice a n c) with
    | none => exact .inl rfl
    | some q => exact .inr (fun e2 => by have h1 := (OwnS.lt h.own q e).1; have := Option.some.inj e2; omega)
  · obtain ⟨h1, h2, h3⟩ := h.rows k hk
    exact SAt.kept h1 hg (fun b o e e2 => by have := (h3 b o e).1; have := Option.some.inj e2; omega)
theorem LB.at (h : LB w W g K a n c R L) : LAt W a n L := ⟨h.len, R, OwnS.at rf_len h.own, fun k hk => (h.rows k hk).1⟩
end

/-- A drawn curve is put to the list. -/
theorem LB.put {w W W1 W2 W3 : World} {g K n c pn pc c3 : Nat} {a pa a3 : Option Addr} {R : List CRow} {L : List (List Pt)} {l : List Pt} (h : LB w W g K a n c R L)
    (hc : Cur W1 g (K + 100)) (hg : W.grownBy W1 (some g)) (hp : PAt W1 pa pn l) (h7 : 1 ≤ pn ∧ pn ≤ 7) (hf : ∀ b o, pa = some ⟨b, o, none⟩ → W.heap.size ≤ b) (hb : Below W1.heap.size W1 W2)
    (ho : OwnS rf 1 25 W3 w.heap.size (.slice a3 (n + 1) c3) (R ++ [(pa, pn, pc)])) (hgr : W2.grownBy W3 (Value.ownBlock (.slice a n c)))
    (hbl : Value.ownBlock (.slice a3 (n + 1) c3) = Value.ownBlock (.slice a n c) ∨ Value.ownBlock (.slice a3 (n + 1) c3) = some W2.heap.size) : LB w W3 g (K + 100) a3 (n + 1) c3 (R ++ [(pa, pn, pc)]) (L ++ [l]) := by
  have h1 := h.step hc hg
  have hsz := h.gro.size
  have hs1 := hg.size
  have hs2 := hb.size
  have hlR : R.length = n := OwnS.len h.own
  have hown : ∀ q, Value.ownBlock (.slice a n c) = some q → w.heap.size ≤ q ∧ q < W.heap.size := fun q e => OwnS.lt h.own q e
  refine ⟨(h1.cur.below hb).kept hgr (fun k e => by have := (hown k e).1; have := h.gb; omega), grown_step (grownBy_trans h1.gro (grown_of_below hb _)) hgr (fun k e => .inl (hown k e).1), ho, by rw [List.length_append, h.len]; rfl, fun k hk => ?_, h.gb⟩
  by_cases e : k = n
  · subst e
    have er : row (R ++ [(pa, pn, pc)]) k = (pa, pn, pc) := by unfold row; rw [List.getElem?_append_right (by omega), hlR]; simp
    have el : lk (L ++ [l]) k = l := by unfold lk; rw [List.getElem?_append_right (by rw [h.len]; exact Nat.le_refl _), h.len]; simp
    rw [er, el]
    have hne : ∀ b o, pa = some ⟨b, o, none⟩ → Value.ownBlock (.slice a k c) ≠ some b := fun b o e e2 => by have := hf b o e; have := (hown b e2).2; omega
    refine ⟨SAt.kept (hp.below hb) hgr (fun b o e e2 => hne b o e e2.symm), by rw [hp.1]; exact h7, fun b o e => ⟨by have := hf b o e; omega, fun e2 => ?_⟩⟩
    rcases hbl with hbl | hbl
    · exact hne b o e (hbl ▸ e2)
    · rw [hbl] at e2
      have := Option.some.inj e2
      obtain ⟨b', o', e', hb', -⟩ := hp.2 0 (by omega)
      have e : pa = some ⟨b, o, none⟩ := e
      rw [e] at e'
      simp only [Option.some.injEq, Addr.mk.injEq, and_true] at e'
      omega
  · have er : row (R ++ [(pa, pn, pc)]) k = row R k := by unfold row; rw [List.getElem?_append_left (by omega)]
    have el : lk (L ++ [l]) k = lk L k := by unfold lk; rw [List.getElem?_append_left (by rw [h.len]; omega)]
    rw [er, el]
    obtain ⟨r1, r2, r3⟩ := h1.rows k (by omega)
    refine ⟨SAt.kept (r1.below hb) hgr (fun b o e e2 => (r3 b o e).2 e2.symm), r2, fun b o e => ⟨(r3 b o e).1, fun e2 => ?_⟩⟩
    rcases hbl with hbl | hbl
    · exact (r3 b o e).2 (hbl ▸ e2)
    · rw [hbl] at e2
      have := Option.some.inj e2
      obtain ⟨b', o', e', hb', -⟩ := r1.2 0 (by rw [← r1.1]; omega)
      rw [e] at e'
      simp only [Option.some.injEq, Addr.mk.injEq, and_true] at e'
      omega

set_option maxRecDepth 100000 in
set_option maxHeartbeats 8000000 in
theorem c_curves (g K : Nat) (w : World) (h : Cur w g K) (hK : K ≤ 10000000) :
    Calls Try.prog 80 #[.pointer (some ⟨g, 0, none⟩)] w fun e w' => (∃ (a : Option Addr) (n c : Nat) (L : List (List Pt)), e = .returned (.slice a n c) ∧ LAt w' a n L ∧ n ≤ 5 ∧ (∀ k, k < n → (lk L k).length ≤ 7) ∧ (∀ W, w'.grownBy W (some g) → LAt W a n L)) ∧ Cur w' g (K + 1000) ∧ w.grownBy w' (some g) := by
  obtain ⟨i0, hi, hz0, hz1, hz2⟩ := info_parts Try.infoRow
  have HI := hid hi
  have HZ := hid hz0
  have HZ1 := hid hz1
  have HZ2 := hid hz2
  clear hi hz0 hz1 hz2
  have H := hid h
  have hgz := h.lt
  clear h
  go_enter Try.func80, Try.ntmps80
  go_upto_region 2 with fail
  have S0 := hid (show LB w (w.alloc (.cells #[] 25)) g K (some ⟨w.heap.size, 0, none⟩) 0 0 [] [] from ⟨H.out.below (by go_grown), grown_of_below (by go_grown) _, OwnS.lit0 w, rfl, fun k hk => absurd hk (by omega), hgz⟩)
  generalize w.alloc (.cells #[] 25) = w0 at *
  go_wp2_with fail
  refine (c_pick g _ 4 _ S0.out.cur (by omega) (by omega)).mono ?_
  rintro e w1 ⟨⟨v1, rfl, h10, h11⟩, hc1, hg1⟩
  have S1 := hid (S0.out.step hc1 hg1)
  clear hc1 hg1 S0
  go_wp2_with fail
  refine (c_pick g _ 16 _ S1.out.cur (by omega) (by omega)).mono ?_
  rintro e w2 ⟨⟨v2, rfl, h20, h21⟩, hc2, hg2⟩
  have S2 := hid (S1.out.step hc2 hg2)
  clear hc2 hg2 S1
  obtain ⟨T, hT⟩ : ∃ T : Nat, v1 + 1 + v2.tdiv 15 = (T : Int) := ⟨(v1 + 1 + v2.tdiv 15).toNat, by rw [Int.tdiv_eq_ediv_of_nonneg h20]; omega⟩
  have hT5 : T ≤ 5 := by rw [Int.tdiv_eq_ediv_of_nonneg h20] at hT; omega
  have hw1 : IntKind.i64.wrap (v1 + 1) = v1 + 1 := IntWalk.i64_in _ (by omega)
  have hw2 : IntKind.i64.wrap (v2.tdiv 15) = v2.tdiv 15 := IntWalk.i64_in _ (by rw [Int.tdiv_eq_ediv_of_nonneg h20]; omega)
  have hw3 : IntKind.i64.wrap (v1 + 1 + v2.tdiv 15) = (T : Int) := by rw [hT]; exact IntWalk.i64_in _ (by omega)
  clear h10 h11 h20 h21 hT
  go_wp2
  go_loopg [3, 4] T (fun gm o i wr => ∃ (k : Nat) (a' : Option Addr) (c' : Nat) (R : List CRow) (L : List (List Pt)), k ≤ T ∧ gm = T - k ∧ o = .slice a' k c' ∧ i = .int .i64 ((T : Int) - (k : Int)) ∧ Hid (LB w wr g (K + 4 + 100 * k) a' k c' R L))
  case atStart => exact ⟨0, _, 0, [], [], Nat.zero_le _, rfl, rfl, by simp, hid (S2.out.le (by omega))⟩
  case round =>
    obtain ⟨k, a', c', R, L, hk, rfl, rfl, rfl, hh⟩ := hrel
    clear S2
    have hgz2 := hh.out.gb
    by_cases hlt : k < T
    · have hlti : (0 : Int) < (T : Int) - (k : Int) := by omega
      have hll := OwnS.len hh.out.own
      have hsz := hh.out.gro.size
      have hwk : IntKind.i64.wrap ((T : Int) - (k : Int) - 1) = (T : Int) - ((k + 1 : Nat) : Int) := by rw [IntWalk.i64_in _ (by omega)]; omega
      go_wp2_with fail
      refine (c_curve g _ _ hh.out.cur (by omega)).mono ?_
      rintro e w5 ⟨⟨pa, pn, pc, rfl, hpn, l, hp, hf⟩, hc5, hg5⟩
      have S5 := hid (hh.out.step hc5 hg5)
      have hs5 := hg5.size
      go_wp2_with (at_builtin; refine wp_append_s _ rfl _ _ 43 rfl 25 i0 (.slice none 0 0) 24 Try.underlying43 HI.out HZ.out HZ1.out HZ2.out rfl (by decide) rf_len rf_one w.heap.size _ R rfl (OwnS.alloc S5.out.own _) _ 1 1 [(pa, pn, pc)] rfl (SAt.single (e := 25) _ (pa, pn, pc) rf_len) (k + 1) (by omega) (by omega) (by omega) (by simp; omega) ?_)
      intro a2 c2 w6 hown hgrow hblk
      have S6 := hid (hh.out.put hc5 hg5 hp hpn hf (by go_grown) hown hgrow (by rw [World.size_alloc]; exact hblk))
      clear hown hgrow hblk hll hp hf hc5 hg5
      go_wp2
      go_roundg (T - (k + 1))
      case rel => exact ⟨k + 1, _, _, _, _, by omega, rfl, rfl, rfl, hid (S6.out.le (by omega))⟩
      case measure => omega
    · have hlti : ¬ (0 : Int) < (T : Int) - (k : Int) := by omega
      obtain rfl : T = k := by omega
      go_wp2_with fail
      refine (c_one g _ 24 _ hh.out.cur (by omega) (by omega)).mono ?_
      rintro e w5 ⟨⟨bb, rfl⟩, hc5, hg5⟩
      have S5 := hid (hh.out.step hc5 hg5)
      clear hc5 hg5
      cases bb
      · go_wp2
        go_ret
        exact ⟨⟨_, _, _, L, rfl, S5.out.at, by omega, fun j hj => (S5.out.rows j hj).2.1.2, fun W hW => S5.out.atk hW⟩, S5.out.cur.le (by omega), S5.out.gro⟩
      · go_wp2
        go_ret
        exact ⟨⟨_, _, _, [], rfl, LAt.nil _ _, by omega, fun j hj => by omega, fun W hW => LAt.nil _ _⟩, S5.out.cur.le (by omega), S5.out.gro⟩

end Go.Proofs.Ytpcbeapajlchgaa

/-
  From a walk to a law's row: every argument reads as it did, because nothing that was there has turned.
-/
set_option linter.unusedVariables false
set_option linter.unusedSimpArgs false
namespace Go.Proofs.Ytpcbeapajlchgaa
open Go.ChangeShapes Go.WideShapes Go.ChangeAt Go.RowKit Go.Joins

theorem Try.own : ownKnob Try.prog.godebug = none := by kernel_rfl
theorem Try.laidOut : laidOutB Try.prog = true := by kernel_rfl

theorem Try.cellsInt : Try.prog.cellsOf 3 = 1 := by kernel_rfl

theorem trodAll_below {H : Type} {enc : TypeId × Value → H} {W W' : World} (hb : Below W.heap.size W W') : ∀ (ts : List TypeId) (vs : List Value) (ds : List (DataW H)) (ps : List MemPlace),
    (∀ t ∈ ts, Try.prog.readableRec t = true ∧ t < Try.prog.types.size) → DataW.TrodAll enc Try.prog W 0 (fun _ => true) true ts vs ds ps → (∀ x ∈ ps, x.block < W.heap.size) →
    DataW.TrodAll enc Try.prog W' 0 (fun b => decide (b < W.heap.size)) true ts vs ds ps
  | [], vs, ds, ps, _, h, _ => by
    obtain ⟨rfl, rfl, rfl⟩ := trodAll_nil h
    exact trodAll_mk0
  | t :: ts, vs, ds, ps, hg, h, hl => by
    obtain ⟨v, vs', d, ds', p, q, rfl, rfl, rfl, h1, h2⟩ := trodAll_cons h
    have hg1 := hg t (by simp)
    exact trodAll_cons_mk (Below.trod Try.laidOut hg1.1 hg1.2 h1 hb (fun x hx => hl x (by simp [hx]))) (trodAll_below hb ts vs' ds' q (fun t ht => hg t (by simp [ht])) h2 (fun x hx => hl x (by simp [hx])))

set_option maxRecDepth 100000 in
theorem law_post {H : Type} {enc : TypeId × Value → H} {f : Func} {s : ChangeSpec} (hvars : s.vars = []) (hres : f.resultTypes = #[4]) (hgood : (f.params.toList.all fun t => Try.prog.readableRec t && decide (t < Try.prog.types.size)) = true)
    {W W' : World} {args : Array Value} {ds gs : List (DataW H)} {before : List MemPlace} (hW : DataW.Whole enc Try.prog f.params.toList s.vars false W args.toList ds gs before)
    (h1 : (s.fn H (ds ++ gs)).results = [.lit (.bool true)]) (h2 : (s.fn H (ds ++ gs)).args = ds) (h3 : (s.fn H (ds ++ gs)).vars = []) (hb : Below W.heap.size W W') :
    s.post enc Try.prog f false true false false W args (.bool true) W' := by
  have hW' := hW
  obtain ⟨p, q, hA, hV, rfl, hfz, hnd⟩ := hW
  have hlt : ∀ x ∈ p, x.block < W.heap.size := fun x hx => hW'.lt x (by simp [hx])
  refine ⟨ds, gs, p ++ q, [], p, [], hW', ?_, ?_, ?_, hb.frame _, fun h => by cases h⟩
  · rw [h1, hres]
    exact trodAll_mk1 (shut_bool Try.underlying4 true)
  · rw [h2]
    exact trodAll_below hb _ _ _ _ (fun t ht => by have := List.all_eq_true.1 hgood t ht; simpa using this) hA hlt
  · rw [h3, hvars]; rfl

set_option maxRecDepth 100000 in
theorem open_ints_at {H : Type} {enc : TypeId × Value → H} {W : World} {base : Nat} {v : Value} {d : DataW H} {p : List MemPlace}
    (hv : Value.okWide Try.prog W .any base 81 v) (h : DataW.Trod enc Try.prog W 0 (fun _ => true) true 81 v d p) :
    ∃ a n c l, v = .slice a n c ∧ IntsAt W a n l ∧ ∀ x ∈ l, -9223372036854775808 ≤ x ∧ x ≤ 9223372036854775807 := by
  obtain ⟨a0, len, cap, rfl⟩ := okWide_slice Try.underlying81 hv
  obtain ⟨fuel, hf⟩ := h
  rcases open_ints Try.underlying81 Try.underlying3 Try.cellsInt hf with ⟨hcs, hx⟩ | ⟨a, len', cap', zs, hcs, _, hl, hm, hz, hx, hcell, hwz⟩
  · simp [Value.cells] at hcs
    obtain ⟨rfl, rfl, rfl⟩ := hcs
    exact ⟨_, _, _, [], rfl, IntsAt.nil _ _, fun x hx => by cases hx⟩
  · simp [Value.cells] at hcs
    obtain ⟨rfl, rfl, rfl⟩ := hcs
    simp at hz
    refine ⟨_, _, _, zs.take len, rfl, ⟨by rw [List.length_take]; omega, ?_⟩, ?_⟩
    · intro k hk
      have h0 := hcell 0 (by omega)
      have hb := World.block_lt_of_cell? W _ (hcell 0 (by omega))
      have hsp : a.spot = none := by
        simp only [Addr.add, if_pos] at h0
        unfold World.cell? at h0
        split at h0
        · split at h0
          · cases h0
          · rename_i hs
            cases hq : a.spot with
            | none => rfl
            | some _ => rw [hq] at hs; exact absurd rfl hs
        · cases h0
      obtain ⟨b, off, sp⟩ := a
      simp only at hsp
      subst hsp
      refine ⟨b, off, rfl, by simpa [addr_add] using hb, ?_⟩
      have hk' := hcell k (by omega)
      rw [addr_add] at hk'
      rw [hk', List.getElem?_take, if_pos hk]
      rfl
    · intro x hx
      have := hwz x (List.mem_of_mem_take hx)
      simpa [Lit.wf, IntKind.min, IntKind.max, IntKind.signed, IntKind.bits] using this

end Go.Proofs.Ytpcbeapajlchgaa

/-
  A code of bytes as an argument.
-/
set_option linter.unusedVariables false
set_option linter.unusedSimpArgs false
namespace Go.Proofs.Ytpcbeapajlchgaa
open Go.ChangeShapes Go.WideShapes Go.ChangeAt Go.RowKit Go.Joins

theorem Try.cellsByte : Try.prog.cellsOf 5 = 1 := by kernel_rfl

set_option maxRecDepth 100000 in
theorem open_bytes {H : Type} {enc : TypeId × Value → H} {W : World} {base : Nat} {v : Value} {d : DataW H} {p : List MemPlace}
    (hv : Value.okWide Try.prog W .any base 47 v) (h : DataW.Trod enc Try.prog W 0 (fun _ => true) true 47 v d p) :
    ∃ a n c, v = .slice a n c ∧ BytesAt W a n := by
  obtain ⟨a0, len, cap, rfl⟩ := okWide_slice Try.underlying47 hv
  obtain ⟨fuel, hf⟩ := h
  rcases open_ints Try.underlying47 Try.underlying5 Try.cellsByte hf with ⟨hcs, hx⟩ | ⟨a, len', cap', zs, hcs, _, hl, hm, hz, hx, hcell, hwz⟩
  · simp [Value.cells] at hcs
    obtain ⟨rfl, rfl, rfl⟩ := hcs
    exact ⟨_, _, _, rfl, by omega, fun i hi => by omega⟩
  · simp [Value.cells] at hcs
    obtain ⟨rfl, rfl, rfl⟩ := hcs
    simp at hz
    refine ⟨_, _, _, rfl, by have := hm; unfold maxLen at *; omega, ?_⟩
    intro k hk
    have h0 := hcell 0 (by omega)
    have hb := World.block_lt_of_cell? W _ (hcell 0 (by omega))
    have hsp : a.spot = none := by
      simp only [Addr.add, if_pos] at h0
      unfold World.cell? at h0
      split at h0
      · split at h0
        · cases h0
        · rename_i hs
          cases hq : a.spot with
          | none => rfl
          | some _ => rw [hq] at hs; exact absurd rfl hs
      · cases h0
    obtain ⟨b, off, sp⟩ := a
    simp only at hsp
    subst hsp
    have hk' := hcell k (by omega)
    rw [addr_add] at hk'
    have hw := hwz _ (getD_mem zs k (by omega))
    have hw2 : 0 ≤ zs[k]?.getD 0 ∧ zs[k]?.getD 0 < 256 := by
      have : 0 ≤ zs[k]?.getD 0 ∧ zs[k]?.getD 0 ≤ 255 := by simpa [Lit.wf, IntKind.min, IntKind.max, IntKind.signed, IntKind.bits] using hw
      omega
    exact ⟨b, off, _, rfl, by simpa [addr_add] using hb, hk', hw2.1, hw2.2⟩

end Go.Proofs.Ytpcbeapajlchgaa

/-
  The draws of lists of curves, and of a curve with a resistance.
-/
set_option linter.unusedVariables false
set_option linter.unusedSimpArgs false
namespace Go.Proofs.Ytpcbeapajlchgaa
open Go.RowKit

set_option maxRecDepth 100000 in
set_option maxHeartbeats 8000000 in
theorem s_DrawWorkingPoint (a0 : Option Addr) (n0 c0 : Nat) (w : World) (h : BytesAt w a0 n0) :
    Calls Try.prog 47 #[.slice a0 n0 c0] w fun e w' => ∃ (a : Option Addr) (n c : Nat) (L : List Pt) (p q : Int), e = .returned (.tuple #[.slice a n c, .int .i64 p, .int .i64 q]) ∧ (PAt w' a n L ∧ 1 ≤ n ∧ n ≤ 7) ∧ Below w.heap.size w w' := by
  have H := hid h
  clear h
  go_enter Try.func47, Try.ntmps47
  go_upto_region 2 with fail
  have C0 := hid (Cur.start (c := c0) (g := w.heap.size) H.out rfl)
  have B0 := hid (by go_grown : Below w.heap.size w (w.alloc (.cells #[.slice a0 n0 c0, .int .i64 0, .int .u64 0] 90)))
  have hz0 : w.heap.size < (w.alloc (.cells #[.slice a0 n0 c0, .int .i64 0, .int .u64 0] 90)).heap.size := by simp
  obtain ⟨g, hgg⟩ : ∃ g, w.heap.size = g := ⟨_, rfl⟩
  have hgw : w.heap.size ≤ g := by omega
  rw [hgg] at C0 hz0 ⊢
  generalize w.alloc (.cells #[.slice a0 n0 c0, .int .i64 0, .int .u64 0] 90) = w0 at *
  clear hgg
  go_wp2_with fail
  refine (c_curve g 0 _ C0.out (by omega)).mono ?_
  rintro e w1 ⟨⟨a, n, c, rfl, ⟨hn1, hn2⟩, L, hp, hne⟩, hc1, hg1⟩
  have HP := hid hp
  have HNE := hid (fun b o (e : a = some ⟨b, o, none⟩) => (by have := hne b o e; omega : b ≠ g))
  have HC := hid hc1
  have HB := hid (Below.grown B0.out hg1 B0.out.size (fun q e => by have := Option.some.inj e; omega) : Below w.heap.size w w1)
  clear hp hne hc1 hg1
  go_wp2_with fail
  refine (c_near7 g _ _ HC.out (by omega)).mono ?_
  rintro e w2 ⟨⟨p, rfl⟩, hc2, hg2⟩
  have HP2 := hid (SAt.kept HP.out hg2 (fun b o e e2 => HNE.out b o e (Option.some.inj e2)))
  have HB2 := hid (Below.grown HB.out hg2 HB.out.size (fun q e => by have := Option.some.inj e; omega))
  have HC2 := hid hc2
  have hgz := hc2.lt
  clear hc2 hg2
  go_wp2_with fail
  refine (c_pick g _ 24 _ (HC2.out.below (by go_grown)) (by omega) (by omega)).mono ?_
  rintro e w5 ⟨⟨v, rfl, hv0, hv1⟩, hc5, hg5⟩
  have I0 : IntsAt (w2.alloc _) (some ⟨w2.heap.size, 0, none⟩) 7 [0, 1, 2, 10, 1000, -1, 1001] := IntsAt.lit' w2 3 [0, 1, 2, 10, 1000, -1, 1001] rfl rfl
  have I5 := hid (I0.kept hg5 (fun b o e e2 => by simp only [Option.some.injEq, Addr.mk.injEq] at e; have := Option.some.inj e2; omega))
  have HG5 := hid (grownBy_trans (grown_of_below (by go_grown) _) hg5 : w2.grownBy w5 (some g))
  have HP5 := hid (SAt.kept HP2.out HG5.out (fun b o e e2 => HNE.out b o e (Option.some.inj e2)))
  have HB5 := hid (Below.grown HB2.out HG5.out HB2.out.size (fun q e => by have := Option.some.inj e; omega))
  have HC5 := hid hc5
  obtain ⟨k, hk⟩ : ∃ k : Nat, 5 + v.tdiv 11 = (k : Int) := ⟨(5 + v.tdiv 11).toNat, by rw [Int.tdiv_eq_ediv_of_nonneg hv0]; omega⟩
  have hk2 : 5 ≤ k ∧ k ≤ 7 := by rw [Int.tdiv_eq_ediv_of_nonneg hv0] at hk; omega
  have hw1 : IntKind.i64.wrap (v.tdiv 11) = v.tdiv 11 := IntWalk.i64_in _ (by rw [Int.tdiv_eq_ediv_of_nonneg hv0]; omega)
  have hw2 : IntKind.i64.wrap (5 + v.tdiv 11) = (k : Int) := by rw [hk]; exact IntWalk.i64_in _ (by omega)
  have hk3 : (k : Int) ≤ 7 := by omega
  clear hc5 hg5 hv0 hv1 hk I0
  go_wp2_with fail
  refine (c_among g _ w2.heap.size k _ ([0, 1, 2, 10, 1000, -1, 1001].take k) _ HC5.out (by omega) (ints_take I5.out (by omega)) (by omega) (by omega) (by omega)).mono ?_
  rintro e w6 ⟨⟨u, rfl, hu⟩, hc6, hg6⟩
  have HP6 := hid (SAt.kept HP5.out hg6 (fun b o e e2 => HNE.out b o e (Option.some.inj e2)))
  have HB6 := hid (Below.grown HB5.out hg6 HB5.out.size (fun q e => by have := Option.some.inj e; omega))
  clear hc6 hg6 hu
  go_wp2
  go_ret3
  exact ⟨a, n, c, L, p, u, rfl, ⟨HP6.out, hn1, hn2⟩, HB6.out⟩

set_option maxRecDepth 100000 in
set_option maxHeartbeats 8000000 in
theorem s_DrawParallelFlow (a0 : Option Addr) (n0 c0 : Nat) (w : World) (h : BytesAt w a0 n0) :
    Calls Try.prog 48 #[.slice a0 n0 c0] w fun e w' => ∃ (a : Option Addr) (n c : Nat) (L : List (List Pt)) (q : Int), e = .returned (.tuple #[.slice a n c, .int .i64 q]) ∧ (LAt w' a n L ∧ n ≤ 5 ∧ ∀ k, k < n → (lk L k).length ≤ 7) ∧ Below w.heap.size w w' := by
  have H := hid h
  clear h
  go_enter Try.func48, Try.ntmps48
  go_upto_region 2 with fail
  have C0 := hid (Cur.start (c := c0) (g := w.heap.size) H.out rfl)
  have B0 := hid (by go_grown : Below w.heap.size w (w.alloc (.cells #[.slice a0 n0 c0, .int .i64 0, .int .u64 0] 90)))
  have hz0 : w.heap.size < (w.alloc (.cells #[.slice a0 n0 c0, .int .i64 0, .int .u64 0] 90)).heap.size := by simp
  obtain ⟨g, hgg⟩ : ∃ g, w.heap.size = g := ⟨_, rfl⟩
  have hgw : w.heap.size ≤ g := by omega
  rw [hgg] at C0 hz0 ⊢
  generalize w.alloc (.cells #[.slice a0 n0 c0, .int .i64 0, .int .u64 0] 90) = w0 at *
  clear hgg
  go_wp2_with fail
  refine (c_curves g 0 _ C0.out (by omega)).mono ?_
  rintro e w1 ⟨⟨a, n, c, L, rfl, hl, hn1, h7, hk⟩, hc1, hg1⟩
  have HP := hid hk
  have HC := hid hc1
  have HB := hid (Below.grown B0.out hg1 B0.out.size (fun q e => by have := Option.some.inj e; omega) : Below w.heap.size w w1)
  clear hl hk hc1 hg1
  go_wp2_with fail
  refine (c_near7 g _ _ HC.out (by omega)).mono ?_
  rintro e w2 ⟨⟨u, rfl⟩, hc2, hg2⟩
  have HP2 := hid (HP.out w2 hg2)
  have HB2 := hid (Below.grown HB.out hg2 HB.out.size (fun q e => by have := Option.some.inj e; omega))
  clear hc2 hg2
  go_wp2
  go_ret2
  exact ⟨a, n, c, L, u, rfl, ⟨HP2.out, hn1, h7⟩, HB2.out⟩

set_option maxRecDepth 100000 in
set_option maxHeartbeats 8000000 in
theorem s_DrawSeriesHead (a0 : Option Addr) (n0 c0 : Nat) (w : World) (h : BytesAt w a0 n0) :
    Calls Try.prog 49 #[.slice a0 n0 c0] w fun e w' => ∃ (a : Option Addr) (n c : Nat) (L : List (List Pt)) (q : Int), e = .returned (.tuple #[.slice a n c, .int .i64 q]) ∧ (LAt w' a n L ∧ n ≤ 5 ∧ ∀ k, k < n → (lk L k).length ≤ 7) ∧ Below w.heap.size w w' := by
  have H := hid h
  clear h
  go_enter Try.func49, Try.ntmps49
  go_upto_region 2 with fail
  have C0 := hid (Cur.start (c := c0) (g := w.heap.size) H.out rfl)
  have B0 := hid (by go_grown : Below w.heap.size w (w.alloc (.cells #[.slice a0 n0 c0, .int .i64 0, .int .u64 0] 90)))
  have hz0 : w.heap.size < (w.alloc (.cells #[.slice a0 n0 c0, .int .i64 0, .int .u64 0] 90)).heap.size := by simp
  obtain ⟨g, hgg⟩ : ∃ g, w.heap.size = g := ⟨_, rfl⟩
  have hgw : w.heap.size ≤ g := by omega
  rw [hgg] at C0 hz0 ⊢
  generalize w.alloc (.cells #[.slice a0 n0 c0, .int .i64 0, .int .u64 0] 90) = w0 at *
  clear hgg
  go_wp2_with fail
  refine (c_curves g 0 _ C0.out (by omega)).mono ?_
  rintro e w1 ⟨⟨a, n, c, L, rfl, hl, hn1, h7, hk⟩, hc1, hg1⟩
  have HP := hid hk
  have HC := hid hc1
  have HB := hid (Below.grown B0.out hg1 B0.out.size (fun q e => by have := Option.some.inj e; omega) : Below w.heap.size w w1)
  clear hl hk hc1 hg1
  go_wp2_with fail
  refine (c_among g _ w1.heap.size 7 7 [0, 1, 2, 5, 11, 20, -1] _ (HC.out.below (by go_grown)) (by omega) (IntsAt.lit' _ 3 [0, 1, 2, 5, 11, 20, -1] rfl rfl) (by have := HC.out.lt; omega) (by omega) (by omega)).mono ?_
  rintro e w2 ⟨⟨u, rfl, hu⟩, hc2, hg2⟩
  have HG := hid (grownBy_trans (grown_of_below (by go_grown) _) hg2 : w1.grownBy w2 (some g))
  have HP2 := hid (HP.out w2 HG.out)
  have HB2 := hid (Below.grown HB.out HG.out HB.out.size (fun q e => by have := Option.some.inj e; omega))
  clear hc2 hg2 hu HG
  go_wp2
  go_ret2
  exact ⟨a, n, c, L, u, rfl, ⟨HP2.out, hn1, h7⟩, HB2.out⟩

end Go.Proofs.Ytpcbeapajlchgaa

