/-
  Texts of this claim, joined: CurveW0, Calm, Ints, CurveB, CurveB2, CurveB3, CurveW.
-/
import Derived.Test.YtpcbeapajlchgaaPu1
import Derived.Test.YtpcbeapajlchgaaPu2
import Derived.Test.YtpcbeapajlchgaaPu3
/-
  Curves: HeadAt and FlowAt.
-/
set_option linter.unusedVariables false
set_option linter.unusedSimpArgs false
namespace Go.Proofs.Ytpcbeapajlchgaa
open Go.RowKit

theorem i_hasFlow (a : Option Addr) (n c : Nat) (q : Int) (l : List Pt) (w : World) (h : PAt w a n l) (hn : 1 ≤ n ∧ n ≤ 1048576) :
    Calls Try.prog 62 #[.slice a n c, .int .i64 q] w fun e w' => e = .returned (.bool (inR q 0 (pt l (n - 1)).1)) ∧ w = w' := by
  obtain ⟨b0, off0, rfl, hbw, x0, x1⟩ := PAt.get h (n - 1) (by omega)
  have hw : IntKind.i64.wrap ((n : Int) - 1) = ((n - 1 : Nat) : Int) := (IntWalk.i64_in _ (by omega)).trans (by omega)
  have hn2 : n - 1 < n := by omega
  clear h
  go_enter Try.func62, Try.ntmps62
  go_wp2_with fail
  refine (i_inside _ _ _ _).mono ?_
  rintro e _ ⟨rfl, rfl⟩
  go_wp2
  go_ret
  exact ⟨rfl, rfl⟩

/-- The flows and heads that a curve has. -/
def hasQ (l : List Pt) (n : Nat) (q : Int) : Bool := inR q 0 (pt l (n - 1)).1
def hasH (l : List Pt) (n : Nat) (q : Int) : Bool := inR q (pt l (n - 1)).2 (pt l 0).2

theorem seg_flow {l : List Pt} {n : Nat} {q : Int} (hg : goodCurve l = true) (hn : l.length = n) (h : hasQ l n q = true) : ∃ k, Seg n (fun j => q ≤ (pt l j).1) k := by
  have := good_len hg hn
  exact seg_exists this.1 (inR_iff.1 h).2
theorem seg_head {l : List Pt} {n : Nat} {q : Int} (hg : goodCurve l = true) (hn : l.length = n) (h : hasH l n q = true) : ∃ k, Seg n (fun j => (pt l j).2 ≤ q) k := by
  have := good_len hg hn
  exact seg_exists this.1 (inR_iff.1 h).1

theorem i_HeadAt_yes (a : Option Addr) (n c k : Nat) (q : Int) (l : List Pt) (w : World) (h : PAt w a n l) (hg : goodCurve l = true) (hq : hasQ l n q = true) (hk : Seg n (fun j => q ≤ (pt l j).1) k) :
    Calls Try.prog 27 #[.slice a n c, .int .i64 q] w fun e w' => e = .returned (.tuple #[.int .i64 (lowN (hdN l k q) (hdD l k)), .int .i64 (lowD (hdN l k q) (hdD l k)), .bool true]) ∧ Below w.heap.size w w' := by
  have hl := good_len hg h.1
  have hp := pt_flow hg h.1 (k := n - 1) (by omega)
  have hq2 : 0 ≤ q ∧ q ≤ 1000 := by have := inR_iff.1 hq; omega
  have H := hid h
  have HG := hid hg
  have HQ := hid hq
  have HK := hid hk
  clear h hg hq hp hk
  go_enter Try.func27, Try.ntmps27
  go_wp2_with fail
  refine (i_IsValidCurve _ _ _ l _ H.out (by omega)).mono ?_
  rintro e w1 ⟨rfl, hb1⟩
  rw [HG.out]
  go_wp2_with fail
  refine (i_hasFlow _ _ _ _ l _ (H.out.below hb1) (by omega)).mono ?_
  rintro e _ ⟨rfl, rfl⟩
  rw [show inR q 0 (pt l (n - 1)).1 = true from HQ.out]
  go_wp2_with fail
  refine (i_headAt _ _ _ _ _ l _ (H.out.below hb1) HG.out HK.out hq2).mono ?_
  rintro e w2 ⟨rfl, hb2⟩
  go_wp2
  go_quiet (fail)
  go_wp2
  go_ret3
  refine ⟨rfl, ?_⟩
  have z1 := hb1.size
  have z2 := hb2.size
  repeat' (first | (with_reducible exact Below.refl _ _) | (with_reducible assumption) | (with_reducible refine bstep ?_ (by with_reducible assumption)) | (with_reducible refine Below.alloc ?_ ?_ _) | (with_reducible refine Below.setCell ?_ ?_ _) | (with_reducible refine Below.drew ?_) | (with_reducible refine below_drewN ?_ _) | omega | (simp only [World.size_alloc, World.size_setCell, World.size_drew]; omega) | (simp; omega))

theorem i_HeadAt_no (a : Option Addr) (n c : Nat) (q : Int) (l : List Pt) (w : World) (h : PAt w a n l) (hn : n ≤ 1048576) (hg : (goodCurve l && hasQ l n q) = false) :
    Calls Try.prog 27 #[.slice a n c, .int .i64 q] w fun e w' => e = .returned (.tuple #[.int .i64 0, .int .i64 0, .bool false]) ∧ Below w.heap.size w w' := by
  cases h1 : goodCurve l
  · have H := hid h
    have HG := hid h1
    clear h hg h1
    go_enter Try.func27, Try.ntmps27
    go_wp2_with fail
    refine (i_IsValidCurve _ _ _ l _ H.out (by omega)).mono ?_
    rintro e w1 ⟨rfl, hb1⟩
    rw [HG.out]
    go_wp2
    go_ret3
    exact ⟨rfl, hb1⟩
  · have hl := good_len h1 h.1
    have H := hid h
    have HG := hid h1
    have HQ : Hid (hasQ l n q = false) := hid (by rw [h1] at hg; exact hg)
    clear h hg h1
    go_enter Try.func27, Try.ntmps27
    go_wp2_with fail
    refine (i_IsValidCurve _ _ _ l _ H.out (by omega)).mono ?_
    rintro e w1 ⟨rfl, hb1⟩
    rw [HG.out]
    go_wp2_with fail
    refine (i_hasFlow _ _ _ _ l _ (H.out.below hb1) (by omega)).mono ?_
    rintro e _ ⟨rfl, rfl⟩
    rw [show inR q 0 (pt l (n - 1)).1 = false from HQ.out]
    go_wp2
    go_ret3
    exact ⟨rfl, hb1⟩

theorem s_HeadAt_yes (a : Option Addr) (n c k : Nat) (q : Int) (l : List Pt) (w : World) (h : PAt w a n l) (hg : goodCurve l = true) (hq : hasQ l n q = true) (hk : Seg n (fun j => q ≤ (pt l j).1) k) :
    Calls Try.prog 26 #[.slice a n c, .int .i64 q] w fun e w' => e = .returned (.tuple #[.int .i64 (lowN (hdN l k q) (hdD l k)), .int .i64 (lowD (hdN l k q) (hdD l k)), .bool true]) ∧ Below w.heap.size w w' := by
  have hl := good_len hg h.1
  have hp := pt_flow hg h.1 (k := n - 1) (by omega)
  have hq2 : 0 ≤ q ∧ q ≤ 1000 := by have := inR_iff.1 hq; omega
  have hw : IntKind.i64.wrap ((n : Int) - 1) = ((n - 1 : Nat) : Int) := (IntWalk.i64_in _ (by omega)).trans (by omega)
  have hn2 : n - 1 < n := by omega
  have H := hid h
  have HG := hid hg
  have HQ := hid hq
  have HK := hid hk
  clear h hg hq hp hk
  go_enter Try.func26, Try.ntmps26
  go_wp2_with fail
  refine (s_l7Good _ _ _ l _ H.out (by omega)).mono ?_
  rintro e w1 ⟨rfl, hb1⟩
  rw [HG.out]
  obtain ⟨b0, off0, rfl, hbw, x0, x1⟩ := PAt.get (H.out.below hb1) (n - 1) (by omega)
  go_wp2_with fail
  refine (s_l1In _ _ _ _).mono ?_
  rintro e _ ⟨rfl, rfl⟩
  rw [show inR q 0 (pt l (n - 1)).1 = true from HQ.out]
  go_wp2_with fail
  refine (s_l7Head _ _ _ _ _ l _ (H.out.below hb1) HG.out HK.out hq2).mono ?_
  rintro e w2 ⟨rfl, hb2⟩
  go_wp2
  go_ret3
  exact ⟨rfl, bstep hb1 hb2⟩

theorem s_HeadAt_no (a : Option Addr) (n c : Nat) (q : Int) (l : List Pt) (w : World) (h : PAt w a n l) (hn : n ≤ 1048576) (hg : (goodCurve l && hasQ l n q) = false) :
    Calls Try.prog 26 #[.slice a n c, .int .i64 q] w fun e w' => e = .returned (.tuple #[.int .i64 0, .int .i64 0, .bool false]) ∧ Below w.heap.size w w' := by
  cases h1 : goodCurve l
  · have H := hid h
    have HG := hid h1
    clear h hg h1
    go_enter Try.func26, Try.ntmps26
    go_wp2_with fail
    refine (s_l7Good _ _ _ l _ H.out (by omega)).mono ?_
    rintro e w1 ⟨rfl, hb1⟩
    rw [HG.out]
    go_wp2
    go_ret3
    exact ⟨rfl, hb1⟩
  · have hl := good_len h1 h.1
    have hw : IntKind.i64.wrap ((n : Int) - 1) = ((n - 1 : Nat) : Int) := (IntWalk.i64_in _ (by omega)).trans (by omega)
    have hn2 : n - 1 < n := by omega
    have H := hid h
    have HG := hid h1
    have HQ : Hid (hasQ l n q = false) := hid (by rw [h1] at hg; exact hg)
    clear h hg h1
    go_enter Try.func26, Try.ntmps26
    go_wp2_with fail
    refine (s_l7Good _ _ _ l _ H.out (by omega)).mono ?_
    rintro e w1 ⟨rfl, hb1⟩
    rw [HG.out]
    obtain ⟨b0, off0, rfl, hbw, x0, x1⟩ := PAt.get (H.out.below hb1) (n - 1) (by omega)
    go_wp2_with fail
    refine (s_l1In _ _ _ _).mono ?_
    rintro e _ ⟨rfl, rfl⟩
    rw [show inR q 0 (pt l (n - 1)).1 = false from HQ.out]
    go_wp2
    go_ret3
    exact ⟨rfl, hb1⟩

end Go.Proofs.Ytpcbeapajlchgaa

/-
  A drawn region whose operations read and whose calls may make memory, but hand back values that do not hang on the world: one walk in the order of the text.
-/
set_option linter.unusedVariables false
namespace Go.Proofs.Ytpcbeapajlchgaa
open Go.RowKit

theorem wp_region_calm {P : Program} {C : World → Prop} {id : Nat} {Q : Exit → Act → World → Prop} {a : Act} {w : World} {l : List Oper} (hm : P.follows .mixedOrders = true) (hB : Region.lexB .any l.toArray = true) (hC : C w.drew)
    (h : wpQuiet P l.toArray C (fun a' => ∀ w', C w' → Q .normal a' w') l a) : (Code.region id l.toArray true).wp P Q a w :=
  wp_region_quiet (C := C) hm hB hC (by simpa using h)

/-- at a call of a function: its contract -/
theorem calm_call {P : Program} {C : World → Prop} {w' : World} {f : FuncId} {args : Array Value} {v u : Value} (hC : C w') (keep : ∀ wy w5 : World, C wy → Below wy.heap.size wy w5 → C w5)
    (h : Calls P f args w' fun e w5 => e = .returned u ∧ Below w'.heap.size w' w5) (e : u = v) : Calls P f args w' fun e w'' => e = .returned v ∧ C w'' :=
  h.mono fun _ _ ⟨he, hb⟩ => ⟨by rw [he, e], keep _ _ hC hb⟩
theorem calm_same {P : Program} {C : World → Prop} {w' : World} {f : FuncId} {args : Array Value} {v u : Value} (hC : C w')
    (h : Calls P f args w' fun e w5 => e = .returned u ∧ w' = w5) (e : u = v) : Calls P f args w' fun e w'' => e = .returned v ∧ C w'' :=
  h.mono fun _ _ ⟨he, hb⟩ => ⟨by rw [he, e], hb ▸ hC⟩

end Go.Proofs.Ytpcbeapajlchgaa

/-
  What the small functions on slices of numbers do: sums, comparisons, copies, marks.
-/
set_option linter.unusedVariables false
namespace Go.Proofs.Ytpcbeapajlchgaa
open Go.RowKit



end Go.Proofs.Ytpcbeapajlchgaa

/-
  Curves: whether one is above another: the parts.
-/
set_option linter.unusedVariables false
set_option linter.unusedSimpArgs false
namespace Go.Proofs.Ytpcbeapajlchgaa
open Go.RowKit

/-- Less, equal or greater. -/
def cmpI (x y : Int) : Int := if x < y then -1 else if y < x then 1 else 0
theorem cmpI_neg {x y : Int} : cmpI x y < 0 ↔ x < y := by
  unfold cmpI
  split
  · simp [*]
  · split <;> simp [*]

theorem f_isNaN (x : Int) (w : World) : Calls Try.prog 93 #[.int .i64 x] w fun e w' => e = .returned (.bool false) ∧ w = w' := by
  have hx : (x != x) = false := by simp
  go_enter Try.func93, Try.ntmps93
  go_wp2
  go_ret
  exact ⟨ret_bool (by simp), rfl⟩

theorem f_Compare (x y : Int) (w : World) : Calls Try.prog 90 #[.int .i64 x, .int .i64 y] w fun e w' => e = .returned (.int .i64 (cmpI x y)) ∧ w = w' := by
  by_cases h1 : x < y
  · have E := hid (show -1 = cmpI x y by simp [cmpI, h1])
    go_enter Try.func90, Try.ntmps90
    go_wp2_with fail
    refine (f_isNaN _ _).mono ?_
    rintro e _ ⟨rfl, rfl⟩
    go_wp2_with fail
    refine (f_isNaN _ _).mono ?_
    rintro e _ ⟨rfl, rfl⟩
    go_wp2
    go_ret
    exact ⟨ret_int E.out, rfl⟩
  · by_cases h2 : y < x
    · have E := hid (show 1 = cmpI x y by simp [cmpI, h1, h2])
      go_enter Try.func90, Try.ntmps90
      go_wp2_with fail
      refine (f_isNaN _ _).mono ?_
      rintro e _ ⟨rfl, rfl⟩
      go_wp2_with fail
      refine (f_isNaN _ _).mono ?_
      rintro e _ ⟨rfl, rfl⟩
      go_wp2
      go_ret
      exact ⟨ret_int E.out, rfl⟩
    · have E := hid (show 0 = cmpI x y by simp [cmpI, h1, h2])
      go_enter Try.func90, Try.ntmps90
      go_wp2_with fail
      refine (f_isNaN _ _).mono ?_
      rintro e _ ⟨rfl, rfl⟩
      go_wp2_with fail
      refine (f_isNaN _ _).mono ?_
      rintro e _ ⟨rfl, rfl⟩
      go_wp2
      go_ret
      exact ⟨ret_int E.out, rfl⟩

theorem i_compare (a b c d : Int) (w : World) (h1 : -4611686018427387904 ≤ a * d ∧ a * d ≤ 4611686018427387904) (h2 : -4611686018427387904 ≤ c * b ∧ c * b ≤ 4611686018427387904) :
    Calls Try.prog 70 #[.agg #[.int .i64 a, .int .i64 b], .agg #[.int .i64 c, .int .i64 d]] w fun e w' => e = .returned (.int .i64 (cmpI (a * d) (c * b))) ∧ Below w.heap.size w w' := by
  go_enter Try.func70, Try.ntmps70
  go_wp2_with fail
  refine (f_Compare _ _ _).mono ?_
  rintro e _ ⟨rfl, rfl⟩
  go_wp2
  go_ret
  exact ⟨rfl, by go_grown⟩

/-- The segment of a flow. -/
noncomputable def segK (l : List Pt) (n : Nat) (q : Int) : Nat := by
  classical
  exact if h : ∃ k, Seg n (fun j => q ≤ (pt l j).1) k then Classical.choose h else 0
theorem segK_is {l : List Pt} {n : Nat} {q : Int} (h : ∃ k, Seg n (fun j => q ≤ (pt l j).1) k) : Seg n (fun j => q ≤ (pt l j).1) (segK l n q) := by
  unfold segK
  rw [dif_pos h]
  exact Classical.choose_spec h
noncomputable def hN (l : List Pt) (n : Nat) (q : Int) : Int := lowN (hdN l (segK l n q) q) (hdD l (segK l n q))
noncomputable def hD (l : List Pt) (n : Nat) (q : Int) : Int := lowD (hdN l (segK l n q) q) (hdD l (segK l n q))
theorem h_fit {l : List Pt} {n : Nat} {q : Int} (hg : goodCurve l = true) (hn : l.length = n) (hq : hasQ l n q = true) : (0 ≤ q ∧ q ≤ 1000) ∧ (-4000000 ≤ hN l n q ∧ hN l n q ≤ 4000000) ∧ (0 < hD l n q ∧ hD l n q ≤ 1000) := by
  have hs := segK_is (seg_flow hg hn hq)
  have hl := good_len hg hn
  have hp := pt_flow hg hn (k := n - 1) (by omega)
  have hq2 : 0 ≤ q ∧ q ≤ 1000 := by have := inR_iff.1 hq; omega
  obtain ⟨k1, k2, -, -⟩ := hs
  obtain ⟨p1, p2⟩ := pt_flow hg hn (k := segK l n q - 1) (by omega)
  obtain ⟨p3, p4⟩ := pt_flow hg hn (k := segK l n q) (by omega)
  obtain ⟨p5, p6⟩ := pt_step hg hn (k := segK l n q) (by omega) (by omega)
  have q1 := mul_in (x := (pt l (segK l n q - 1)).2) (y := (pt l (segK l n q)).1 - q) (A := 1000) (B := 1000) (by omega) (by omega)
  have q2 := mul_in (x := (pt l (segK l n q)).2) (y := q - (pt l (segK l n q - 1)).1) (A := 1000) (B := 1000) (by omega) (by omega)
  simp only [Int.reduceMul] at q1 q2
  have hd : 0 < hdD l (segK l n q) ∧ hdD l (segK l n q) ≤ 1000 := by unfold hdD; omega
  have hnn : -4000000 ≤ hdN l (segK l n q) q ∧ hdN l (segK l n q) q ≤ 4000000 := by unfold hdN; omega
  have c1 := lowN_fine (a := hdN l (segK l n q) q) hd.1 hnn
  have c2 := lowD_le (a := hdN l (segK l n q) q) hd.1
  have c3 := lowD_pos (a := hdN l (segK l n q) q) hd.1
  exact ⟨hq2, c1, c3, by unfold hD; omega⟩
/-- At a flow that both have, the first curve is under the second one. -/
noncomputable def under (a : List Pt) (n : Nat) (b : List Pt) (m : Nat) (q : Int) : Bool := hasQ a n q && hasQ b m q && decide (hN a n q * hD b m q < hN b m q * hD a n q)
noncomputable def aboveR (a b : List Pt) : Bool × Bool := if goodCurve a = true ∧ goodCurve b = true then (!((a ++ b).any fun p => under a a.length b b.length p.1), true) else (false, false)

theorem any_at {l : List Pt} {p : Pt → Bool} {k : Nat} (hk : k < l.length) (h : p (pt l k) = true) : l.any p = true := by
  rw [List.any_eq_true]
  refine ⟨pt l k, ?_, h⟩
  unfold pt
  rw [List.getElem?_eq_getElem hk]
  exact List.getElem_mem hk
theorem any_none {l : List Pt} {p : Pt → Bool} (h : ∀ k, k < l.length → p (pt l k) = false) : l.any p = false := by
  rw [List.any_eq_false]
  intro x hx
  obtain ⟨j, hj, rfl⟩ := List.mem_iff_getElem.1 hx
  have := h j hj
  unfold pt at this
  rw [List.getElem?_eq_getElem hj] at this
  simpa using this

end Go.Proofs.Ytpcbeapajlchgaa

/-
  Curves: whether one is above another, in the program.
-/
set_option linter.unusedVariables false
set_option linter.unusedSimpArgs false
namespace Go.Proofs.Ytpcbeapajlchgaa
open Go.RowKit

theorem aboveR_no {a b : List Pt} (h : goodCurve a = false ∨ goodCurve b = false) : aboveR a b = (false, false) := by
  unfold aboveR
  rw [if_neg]
  rintro ⟨h1, h2⟩
  rcases h with h | h
  · rw [h1] at h; cases h
  · rw [h2] at h; cases h

theorem i_IsAbove_no (pa pb : Option Addr) (n c m d : Nat) (a b : List Pt) (w : World) (h : PAt w pa n a) (h' : PAt w pb m b) (hn : n ≤ 1048576) (hm : m ≤ 1048576) (hv : goodCurve a = false ∨ goodCurve b = false) :
    Calls Try.prog 33 #[.slice pa n c, .slice pb m d] w fun e w' => e = .returned (.tuple #[.bool false, .bool false]) ∧ Below w.heap.size w w' := by
  have HA := hid h
  have HB := hid h'
  clear h h'
  cases h1 : goodCurve a
  · have GA := hid h1
    clear h1 hv
    go_enter Try.func33, Try.ntmps33
    go_wp2_with fail
    refine (i_IsValidCurve _ _ _ a _ (HA.out.below (by go_grown)) (by omega)).mono ?_
    rintro e w1 ⟨rfl, hb1⟩
    rw [GA.out]
    go_wp2
    go_ret2
    exact ⟨rfl, hb1⟩
  · have GA := hid h1
    have GB : Hid (goodCurve b = false) := hid (by rcases hv with h | h; (rw [h1] at h; cases h); exact h)
    clear h1 hv
    go_enter Try.func33, Try.ntmps33
    go_wp2_with fail
    refine (i_IsValidCurve _ _ _ a _ (HA.out.below (by go_grown)) (by omega)).mono ?_
    rintro e w1 ⟨rfl, hb1⟩
    rw [GA.out]
    go_wp2_with fail
    refine (i_IsValidCurve _ _ _ b _ (HB.out.below hb1) (by omega)).mono ?_
    rintro e w2 ⟨rfl, hb2⟩
    rw [GB.out]
    go_wp2
    go_ret2
    exact ⟨rfl, bstep hb1 hb2⟩
theorem s_IsAbove_no (pa pb : Option Addr) (n c m d : Nat) (a b : List Pt) (w : World) (h : PAt w pa n a) (h' : PAt w pb m b) (hn : n ≤ 1048576) (hm : m ≤ 1048576) (hv : goodCurve a = false ∨ goodCurve b = false) :
    Calls Try.prog 32 #[.slice pa n c, .slice pb m d] w fun e w' => e = .returned (.tuple #[.bool false, .bool false]) ∧ Below w.heap.size w w' := by
  have HA := hid h
  have HB := hid h'
  clear h h'
  cases h1 : goodCurve a
  · have GA := hid h1
    clear h1 hv
    go_enter Try.func32, Try.ntmps32
    go_wp2_with fail
    refine (s_l7Good _ _ _ a _ (HA.out.below (by go_grown)) (by omega)).mono ?_
    rintro e w1 ⟨rfl, hb1⟩
    rw [GA.out]
    go_wp2
    go_ret2
    exact ⟨rfl, hb1⟩
  · have GA := hid h1
    have GB : Hid (goodCurve b = false) := hid (by rcases hv with h | h; (rw [h1] at h; cases h); exact h)
    clear h1 hv
    go_enter Try.func32, Try.ntmps32
    go_wp2_with fail
    refine (s_l7Good _ _ _ a _ (HA.out.below (by go_grown)) (by omega)).mono ?_
    rintro e w1 ⟨rfl, hb1⟩
    rw [GA.out]
    go_wp2_with fail
    refine (s_l7Good _ _ _ b _ (HB.out.below hb1) (by omega)).mono ?_
    rintro e w2 ⟨rfl, hb2⟩
    rw [GB.out]
    go_wp2
    go_ret2
    exact ⟨rfl, bstep hb1 hb2⟩

set_option maxRecDepth 100000 in
set_option maxHeartbeats 8000000 in
theorem i_IsAbove_yes (pa pb : Option Addr) (n c m d : Nat) (a b : List Pt) (w : World) (h : PAt w pa n a) (h' : PAt w pb m b) (h1 : goodCurve a = true) (h2 : goodCurve b = true) :
    Calls Try.prog 33 #[.slice pa n c, .slice pb m d] w fun e w' => e = .returned (.tuple #[.bool (!((a ++ b).any fun p => under a n b m p.1)), .bool true]) ∧ Below w.heap.size w w' := by
  obtain ⟨i0, hi, hz0, hz1, hz2⟩ := info_parts Try.infoCurvePoint
  have hna := good_len h1 h.1
  have hnb := good_len h2 h'.1
  have HA := hid h
  have HB := hid h'
  have LA := hid h.1
  have LB := hid h'.1
  have GA := hid h1
  have GB := hid h2
  have HI := hid hi
  have HZ := hid hz0
  have HZ1 := hid hz1
  have HZ2 := hid hz2
  clear h h' h1 h2 hi hz0 hz1 hz2
  go_enter Try.func33, Try.ntmps33
  go_wp2_with fail
  refine (i_IsValidCurve _ _ _ a _ (HA.out.below (by go_grown)) (by omega)).mono ?_
  rintro e w1 ⟨rfl, hb1⟩
  rw [GA.out]
  go_wp2_with fail
  refine (i_IsValidCurve _ _ _ b _ (HB.out.below (by first | exact hb1 | go_grown)) (by omega)).mono ?_
  rintro e w2 ⟨rfl, hb2⟩
  rw [GB.out]
  have B2 := hid (bstep hb1 hb2)
  clear hb1 hb2
  go_wp2_with (at_builtin; refine wp_append_s _ rfl _ _ 25 rfl 52 i0 (.agg #[.int .i64 0, .int .i64 0]) 16 Try.underlying25 HI.out HZ.out HZ1.out HZ2.out rfl (by decide) pf_len pf_one w2.heap.size _ [] rfl (OwnS.lit0 w2) pa n c a rfl ((HA.out.below B2.out).below (by go_grown)) n (by simp) (by omega) (by decide) (by simp) ?_)
  intro a3 c3 w3 hown3 hgrow3 _
  have O3 := hid (show OwnP w3 w2.heap.size (.slice a3 n c3) a by simpa using hown3)
  have B3 := hid (((Below.refl w2.heap.size w2).alloc (Nat.le_refl _) _).grown hgrow3 (by simp) (fun k hk => by simp [Value.ownBlock] at hk; omega))
  clear hown3 hgrow3
  go_wp2_with (at_builtin; refine wp_append_s _ rfl _ _ 25 rfl 52 i0 (.agg #[.int .i64 0, .int .i64 0]) 16 Try.underlying25 HI.out HZ.out HZ1.out HZ2.out rfl (by decide) pf_len pf_one w2.heap.size _ a rfl O3.out pb m d b rfl ((HB.out.below B2.out).below B3.out) (n + m) (by rw [LA.out]) (by omega) (by decide) B3.out.size ?_)
  intro a4 c4 w4 hown4 hgrow4 _
  have B4 := hid (B3.out.grown hgrow4 B3.out.size (fun k hk => (O3.out.lt k hk).1))
  have O4 := hid (OwnS.at pf_len hown4)
  have A4 := hid ((HA.out.below B2.out).below B4.out)
  have A5 := hid ((HB.out.below B2.out).below B4.out)
  have BW := hid (bstep B2.out B4.out)
  clear hown4 hgrow4 O3 B3
  go_wp2
  go_loopg [22] (n + m) (fun g i wr => ∃ k : Nat, k ≤ n + m ∧ g = n + m - k ∧ i = .int .i64 k ∧ Hid (Below w4.heap.size w4 wr) ∧ Hid (∀ j, j < k → under a n b m (pt (a ++ b) j).1 = false))
  case atStart => exact ⟨0, Nat.zero_le _, by omega, rfl, hid (Below.refl _ _), hid (fun j hj => absurd hj (by omega))⟩
  case round =>
    obtain ⟨k, hk, rfl, rfl, hB, hh⟩ := hrel
    by_cases hlt : k < n + m
    · obtain ⟨b0, off0, rfl, hbw, x0, x1⟩ := PAt.get (O4.out.below hB.out) k hlt
      generalize hq0 : (pt (a ++ b) k).1 = q at x0
      generalize hq1 : (pt (a ++ b) k).2 = q1 at x1
      have HQ0 := hid hq0
      clear hq0 hq1
      go_upto_region 6 with fail
      have X := hid (show Below w4.heap.size w4 (wr.alloc (.cells #[.int .i64 q, .int .i64 q1] 52)).drew ∧ (wr.alloc (.cells #[.int .i64 q, .int .i64 q1] 52)).drew.cell? ⟨wr.heap.size, 0, none⟩ = some (.int .i64 q) from ⟨(hB.out.alloc hB.out.size _).drew, cell_of_row _ _ 0 _ _ (0, 0) (heap_alloc_new _ _)⟩)
      have KEEP : Hid (∀ wy wz : World, (Below w4.heap.size w4 wy ∧ wy.cell? ⟨wr.heap.size, 0, none⟩ = some (.int .i64 q)) → Below wy.heap.size wy wz → (Below w4.heap.size w4 wz ∧ wz.cell? ⟨wr.heap.size, 0, none⟩ = some (.int .i64 q))) :=
        hid (fun wy wz ⟨h0, z0⟩ hb => ⟨bstep h0 hb, (hb.cell (World.block_lt_of_cell? wy _ z0)).trans z0⟩)
      clear x0 x1
      cases qa : hasQ a n q
      · have QA : Hid (inR q 0 (pt a (n - 1)).1 = false) := hid qa
        have U : Hid (under a n b m (pt (a ++ b) k).1 = false) := hid (by rw [HQ0.out]; simp [under, qa])
        clear qa
        refine wp_region_calm (C := (fun w' => Below w4.heap.size w4 w' ∧ w'.cell? ⟨wr.heap.size, 0, none⟩ = some (.int .i64 q))) (by kernel_rfl) (by kernel_rfl) (X.out) ?_
        repeat
          first
            | go_big_quiet_skip
            | (go_big_quiet_want
               first
                 | (unfold Oper.quiet
                    apply Exists.intro
                    refine ⟨fun wq hq => ?_, ?_⟩
                    · (try dsimp only at hq
                       simp [go_sem, Oper.quietAt, Oper.quietUpon, BigFrame.eval_const, BigFrame.eval_global, BigFrame.eval_func, ↓IntWalk.iteOmega, *]
                       first | done | rfl | (first | (refine calm_same hq (i_hasFlow _ _ _ _ a _ (A4.out.below hq.1) (by omega)) (by rw [QA.out]))))
                    simp only [Act.put, List.setIfInBounds_toArray, List.set_cons_succ, List.set_cons_zero]
                    go_big_quiet_on))
        refine wpQuiet_nil ?_
        intro wc hcalm
        try dsimp only at hcalm
        have HC := hid hcalm.1
        clear hcalm
        go_wp2
        go_roundg (n + m - (k + 1))
        case rel =>
          refine ⟨k + 1, by omega, rfl, by go_num, HC, hid (fun j hj => ?_)⟩
          by_cases e : j = k
          · subst e; exact U.out
          · exact hh.out j (by omega)
        case measure => omega
      · have QA : Hid (inR q 0 (pt a (n - 1)).1 = true) := hid qa
        cases qb : hasQ b m q
        · have QB : Hid (inR q 0 (pt b (m - 1)).1 = false) := hid qb
          have U : Hid (under a n b m (pt (a ++ b) k).1 = false) := hid (by rw [HQ0.out]; simp [under, qb])
          clear qa qb
          refine wp_region_calm (C := (fun w' => Below w4.heap.size w4 w' ∧ w'.cell? ⟨wr.heap.size, 0, none⟩ = some (.int .i64 q))) (by kernel_rfl) (by kernel_rfl) (X.out) ?_
          repeat
            first
              | go_big_quiet_skip
              | (go_big_quiet_want
                 first
                   | (unfold Oper.quiet
                      apply Exists.intro
                      refine ⟨fun wq hq => ?_, ?_⟩
                      · (try dsimp only at hq
                         simp [go_sem, Oper.quietAt, Oper.quietUpon, BigFrame.eval_const, BigFrame.eval_global, BigFrame.eval_func, ↓IntWalk.iteOmega, *]
                         first | done | rfl | (first | (refine calm_same hq (i_hasFlow _ _ _ _ a _ (A4.out.below hq.1) (by omega)) (by rw [QA.out])) | (refine calm_same hq (i_hasFlow _ _ _ _ b _ (A5.out.below hq.1) (by omega)) (by rw [QB.out]))))
                      simp only [Act.put, List.setIfInBounds_toArray, List.set_cons_succ, List.set_cons_zero]
                      go_big_quiet_on))
          refine wpQuiet_nil ?_
          intro wc hcalm
          try dsimp only at hcalm
          have HC := hid hcalm.1
          clear hcalm
          go_wp2
          go_roundg (n + m - (k + 1))
          case rel =>
            refine ⟨k + 1, by omega, rfl, by go_num, HC, hid (fun j hj => ?_)⟩
            by_cases e : j = k
            · subst e; exact U.out
            · exact hh.out j (by omega)
          case measure => omega
        · have QB : Hid (inR q 0 (pt b (m - 1)).1 = true) := hid qb
          obtain ⟨f1, f2, f3⟩ := h_fit GA.out LA.out qa
          obtain ⟨-, g2, g3⟩ := h_fit GB.out LB.out qb
          have p1 := mul_in (x := hN a n q) (y := hD b m q) (A := 4000000) (B := 1000) (by omega) (by omega)
          have p2 := mul_in (x := hN b m q) (y := hD a n q) (A := 4000000) (B := 1000) (by omega) (by omega)
          simp only [Int.reduceMul] at p1 p2
          have SA := hid (segK_is (seg_flow GA.out LA.out qa))
          have SB := hid (segK_is (seg_flow GB.out LB.out qb))
          by_cases hu : hN a n q * hD b m q < hN b m q * hD a n q
          · have hneg : cmpI (hN a n q * hD b m q) (hN b m q * hD a n q) < 0 := cmpI_neg.2 hu
            have E := hid (show ((a ++ b).any fun p => under a n b m p.1) = true from any_at (k := k) (by have := LA.out; have := LB.out; rw [List.length_append]; omega) (by show under a n b m (pt (a ++ b) k).1 = true; rw [HQ0.out]; simp [under, qa, qb, hu]))
            clear qa qb hu
            refine wp_region_calm (C := (fun w' => Below w4.heap.size w4 w' ∧ w'.cell? ⟨wr.heap.size, 0, none⟩ = some (.int .i64 q))) (by kernel_rfl) (by kernel_rfl) (X.out) ?_
            repeat
              first
                | go_big_quiet_skip
                | (go_big_quiet_want
                   first
                     | (unfold Oper.quiet
                        apply Exists.intro
                        refine ⟨fun wq hq => ?_, ?_⟩
                        · (try dsimp only at hq
                           simp [go_sem, Oper.quietAt, Oper.quietUpon, BigFrame.eval_const, BigFrame.eval_global, BigFrame.eval_func, ↓IntWalk.iteOmega, *]
                           first | done | rfl | (first | (refine calm_same hq (i_hasFlow _ _ _ _ a _ (A4.out.below hq.1) (by omega)) (by rw [QA.out])) | (refine calm_same hq (i_hasFlow _ _ _ _ b _ (A5.out.below hq.1) (by omega)) (by rw [QB.out])) | (refine calm_call hq KEEP.out (i_headAt _ _ _ _ q a _ (A4.out.below hq.1) GA.out SA.out f1) rfl) | (refine calm_call hq KEEP.out (i_headAt _ _ _ _ q b _ (A5.out.below hq.1) GB.out SB.out f1) rfl) | (refine calm_call hq KEEP.out (i_compare (hN a n q) (hD a n q) (hN b m q) (hD b m q) _ (by omega) (by omega)) rfl)))
                        simp only [Act.put, List.setIfInBounds_toArray, List.set_cons_succ, List.set_cons_zero]
                        go_big_quiet_on))
            refine wpQuiet_nil ?_
            intro wc hcalm
            try dsimp only at hcalm
            have HC := hid hcalm.1
            clear hcalm
            go_wp2
            go_ret2
            rw [E.out]
            exact ⟨rfl, bstep BW.out HC.out⟩
          · have hneg : ¬ cmpI (hN a n q * hD b m q) (hN b m q * hD a n q) < 0 := fun e => hu (cmpI_neg.1 e)
            have U : Hid (under a n b m (pt (a ++ b) k).1 = false) := hid (by rw [HQ0.out]; simp [under, hu])
            clear qa qb hu
            refine wp_region_calm (C := (fun w' => Below w4.heap.size w4 w' ∧ w'.cell? ⟨wr.heap.size, 0, none⟩ = some (.int .i64 q))) (by kernel_rfl) (by kernel_rfl) (X.out) ?_
            repeat
              first
                | go_big_quiet_skip
                | (go_big_quiet_want
                   first
                     | (unfold Oper.quiet
                        apply Exists.intro
                        refine ⟨fun wq hq => ?_, ?_⟩
                        · (try dsimp only at hq
                           simp [go_sem, Oper.quietAt, Oper.quietUpon, BigFrame.eval_const, BigFrame.eval_global, BigFrame.eval_func, ↓IntWalk.iteOmega, *]
                           first | done | rfl | (first | (refine calm_same hq (i_hasFlow _ _ _ _ a _ (A4.out.below hq.1) (by omega)) (by rw [QA.out])) | (refine calm_same hq (i_hasFlow _ _ _ _ b _ (A5.out.below hq.1) (by omega)) (by rw [QB.out])) | (refine calm_call hq KEEP.out (i_headAt _ _ _ _ q a _ (A4.out.below hq.1) GA.out SA.out f1) rfl) | (refine calm_call hq KEEP.out (i_headAt _ _ _ _ q b _ (A5.out.below hq.1) GB.out SB.out f1) rfl) | (refine calm_call hq KEEP.out (i_compare (hN a n q) (hD a n q) (hN b m q) (hD b m q) _ (by omega) (by omega)) rfl)))
                        simp only [Act.put, List.setIfInBounds_toArray, List.set_cons_succ, List.set_cons_zero]
                        go_big_quiet_on))
            refine wpQuiet_nil ?_
            intro wc hcalm
            try dsimp only at hcalm
            have HC := hid hcalm.1
            clear hcalm
            go_wp2
            go_roundg (n + m - (k + 1))
            case rel =>
              refine ⟨k + 1, by omega, rfl, by go_num, HC, hid (fun j hj => ?_)⟩
              by_cases e : j = k
              · subst e; exact U.out
              · exact hh.out j (by omega)
            case measure => omega
    · obtain rfl : k = n + m := by omega
      have E := hid (show ((a ++ b).any fun p => under a n b m p.1) = false from any_none (fun j hj => hh.out j (by have := LA.out; have := LB.out; rw [List.length_append] at hj; omega)))
      go_wp2
      go_ret2
      rw [E.out]
      exact ⟨rfl, bstep BW.out hB.out⟩

end Go.Proofs.Ytpcbeapajlchgaa

/-
  Curves: whether one is above another, in the reference.
-/
set_option linter.unusedVariables false
set_option linter.unusedSimpArgs false
namespace Go.Proofs.Ytpcbeapajlchgaa
open Go.RowKit

/-- The flows of some points. -/
def fl (l : List Pt) : List Int := l.map (·.1)
theorem fl_len (l : List Pt) : (fl l).length = l.length := by simp [fl]
theorem fl_succ (l : List Pt) (k : Nat) (hk : k < l.length) : fl (l.take (k + 1)) = fl (l.take k) ++ [(pt l k).1] := by
  rw [takeS k hk, fl, List.map_append]
  rfl
theorem fl_app (a b : List Pt) : fl (a ++ b) = fl a ++ fl b := by simp [fl]
theorem fl_get (l : List Pt) (k : Nat) (hk : k < l.length) : (fl l)[k]?.getD 0 = (pt l k).1 := by simp [fl, pt, hk]
theorem pt_app {a b : List Pt} {n k : Nat} (hn : a.length = n) : pt (a ++ b) k = if k < n then pt a k else pt b (k - n) := by
  subst hn
  unfold pt
  split
  · rename_i h; rw [List.getElem?_append_left h]
  · rename_i h; rw [List.getElem?_append_right (by omega)]

set_option maxRecDepth 100000 in
set_option maxHeartbeats 8000000 in
theorem s_IsAbove_yes (pa pb : Option Addr) (n c m d : Nat) (a b : List Pt) (w : World) (h : PAt w pa n a) (h' : PAt w pb m b) (h1 : goodCurve a = true) (h2 : goodCurve b = true) :
    Calls Try.prog 32 #[.slice pa n c, .slice pb m d] w fun e w' => e = .returned (.tuple #[.bool (!((a ++ b).any fun p => under a n b m p.1)), .bool true]) ∧ Below w.heap.size w w' := by
  have hna := good_len h1 h.1
  have hnb := good_len h2 h'.1
  have HA := hid h
  have HB := hid h'
  have LA := hid h.1
  have LB := hid h'.1
  have GA := hid h1
  have GB := hid h2
  obtain ⟨ba, oa, rfl, hba, -, -⟩ := PAt.get h 0 (by omega)
  obtain ⟨bb, ob, rfl, hbb, -, -⟩ := PAt.get h' 0 (by omega)
  clear h h' h1 h2
  go_enter Try.func32, Try.ntmps32
  go_wp2_with fail
  refine (s_l7Good _ _ _ a _ (HA.out.below (by go_grown)) (by omega)).mono ?_
  rintro e w1 ⟨rfl, hb1⟩
  rw [GA.out]
  go_wp2_with fail
  refine (s_l7Good _ _ _ b _ (HB.out.below (by first | exact hb1 | go_grown)) (by omega)).mono ?_
  rintro e w2 ⟨rfl, hb2⟩
  rw [GB.out]
  have B2 := hid (bstep hb1 hb2)
  clear hb1 hb2
  go_wp2
  go_loopg [6, 7] n (fun g o i wr => ∃ (k : Nat) (a' : Option Addr) (c' : Nat), k ≤ n ∧ g = n - k ∧ i = .int .i64 k ∧ o = .slice a' k c' ∧ Hid (OwnI wr w2.heap.size (.slice a' k c') (fl (a.take k)) ∧ Below w2.heap.size w2 wr))
  case atStart => exact ⟨0, _, _, Nat.zero_le _, rfl, rfl, rfl, hid ⟨OwnI.lit0 w2, (Below.refl _ _).alloc (Nat.le_refl _) _⟩⟩
  case round =>
    obtain ⟨k, a', c', hk, rfl, rfl, rfl, hh⟩ := hrel
    by_cases hlt : k < n
    · obtain ⟨_, _, e1, hbw, x0, x1⟩ := PAt.get ((HA.out.below B2.out).below hh.out.2) k hlt
      cases e1
      have hl1 := hid (show (fl (a.take k)).length = k by rw [fl_len, List.length_take]; have := LA.out; omega)
      go_wp2_with (at_builtin; refine wp_append_ints _ rfl _ _ rfl w2.heap.size _ (fl (a.take k)) rfl (hh.out.1.alloc _) _ 1 1 [(pt a k).1] rfl (IntsAt.single _ _) (k + 1) (by rw [hl1.out]) (by omega) (by have := hh.out.2.size; simp; omega) ?_)
      intro a'' c'' w3 hown hgrow hblk
      have HO := hid (show OwnI w3 w2.heap.size (.slice a'' (k + 1) c'') (fl (a.take (k + 1))) by rw [fl_succ _ _ (by have := LA.out; omega)]; exact hown)
      have HW := hid ((bstep hh.out.2 (by go_grown)).grown hgrow (by have := hh.out.2.size; simp; omega) (fun q hq => (hh.out.1.lt q hq).1))
      clear hown hgrow hblk hh
      go_wp2
      go_roundg (n - (k + 1))
      case rel => exact ⟨k + 1, _, _, by omega, rfl, by go_num, rfl, hid ⟨HO.out, HW.out⟩⟩
      case measure => omega
    · obtain rfl : k = n := by omega
      have H1 := hid (show OwnI wr w2.heap.size (.slice a' k c') (fl a) by have e := hh.out.1; rwa [List.take_of_length_le (by have := LA.out; omega)] at e)
      have B3 := hid hh.out.2
      clear hh
      go_wp2
      go_loopg [6, 8] m (fun g o i wr => ∃ (j : Nat) (a' : Option Addr) (c' : Nat), j ≤ m ∧ g = m - j ∧ i = .int .i64 j ∧ o = .slice a' (k + j) c' ∧ Hid (OwnI wr w2.heap.size (.slice a' (k + j) c') (fl a ++ fl (b.take j)) ∧ Below w2.heap.size w2 wr))
      case atStart => exact ⟨0, _, _, Nat.zero_le _, rfl, rfl, rfl, hid ⟨by simpa [fl] using H1.out, B3.out⟩⟩
      case round =>
        obtain ⟨j, a2, c2, hj, rfl, rfl, rfl, hh⟩ := hrel
        by_cases hlt2 : j < m
        · obtain ⟨_, _, e1, hbw, x0, x1⟩ := PAt.get ((HB.out.below B2.out).below hh.out.2) j hlt2
          cases e1
          have hl1 := hid (show (fl a ++ fl (b.take j)).length = k + j by rw [List.length_append, fl_len, fl_len, List.length_take]; have := LA.out; have := LB.out; omega)
          go_wp2_with (at_builtin; refine wp_append_ints _ rfl _ _ rfl w2.heap.size _ (fl a ++ fl (b.take j)) rfl (hh.out.1.alloc _) _ 1 1 [(pt b j).1] rfl (IntsAt.single _ _) (k + j + 1) (by rw [hl1.out]) (by omega) (by have := hh.out.2.size; simp; omega) ?_)
          intro a'' c'' w3 hown hgrow hblk
          have HO := hid (show OwnI w3 w2.heap.size (.slice a'' (k + (j + 1)) c'') (fl a ++ fl (b.take (j + 1))) by rw [fl_succ _ _ (by have := LB.out; omega)]; first | exact hown | (rw [← List.append_assoc]; exact hown))
          have HW := hid ((bstep hh.out.2 (by go_grown)).grown hgrow (by have := hh.out.2.size; simp; omega) (fun q hq => (hh.out.1.lt q hq).1))
          clear hown hgrow hblk hh
          go_wp2
          go_roundg (m - (j + 1))
          case rel => exact ⟨j + 1, _, _, by omega, rfl, by go_num, rfl, hid ⟨HO.out, HW.out⟩⟩
          case measure => omega
        · obtain rfl : j = m := by omega
          have H2 := hid (show OwnI wr w2.heap.size (.slice a2 (k + j) c2) (fl (a ++ b)) by have e := hh.out.1; rw [List.take_of_length_le (by have := LB.out; omega)] at e; rw [fl_app]; exact e)
          have B4 := hid hh.out.2
          have A4 := hid ((HA.out.below B2.out).below B4.out)
          have A5 := hid ((HB.out.below B2.out).below B4.out)
          have BW := hid (bstep B2.out B4.out)
          have LL := hid (show (fl (a ++ b)).length = k + j by rw [fl_len, List.length_append]; have := LA.out; have := LB.out; omega)
          obtain ⟨_, _, e1, hbw1, x0, -⟩ := PAt.get A4.out (k - 1) (by omega)
          cases e1
          obtain ⟨_, _, e2, hbw2, y0, -⟩ := PAt.get A5.out (j - 1) (by omega)
          cases e2
          have hk1 : k - 1 < k := by omega
          have hj1 : j - 1 < j := by omega
          have hwk : IntKind.i64.wrap ((k : Int) - 1) = ((k - 1 : Nat) : Int) := (IntWalk.i64_in _ (by omega)).trans (by omega)
          have hwj : IntKind.i64.wrap ((j : Int) - 1) = ((j - 1 : Nat) : Int) := (IntWalk.i64_in _ (by omega)).trans (by omega)
          have X := hid (show Below wr.heap.size wr wr.drew ∧ wr.drew.cell? ⟨ba, oa + (k - 1) * 2, none⟩ = some (.int .i64 (pt a (k - 1)).1) ∧ wr.drew.cell? ⟨bb, ob + (j - 1) * 2, none⟩ = some (.int .i64 (pt b (j - 1)).1) from ⟨(Below.refl _ _).drew, x0, y0⟩)
          clear hh x0 y0
          go_upto_region 12 with fail
          refine wp_region_calm (C := (fun w' => Below wr.heap.size wr w' ∧ w'.cell? ⟨ba, oa + (k - 1) * 2, none⟩ = some (.int .i64 (pt a (k - 1)).1) ∧ w'.cell? ⟨bb, ob + (j - 1) * 2, none⟩ = some (.int .i64 (pt b (j - 1)).1))) (by kernel_rfl) (by kernel_rfl) (X.out) ?_
          repeat
            first
              | go_big_quiet_skip
              | (go_big_quiet_want
                 first
                   | (unfold Oper.quiet
                      apply Exists.intro
                      refine ⟨fun wq hq => ?_, ?_⟩
                      · (try dsimp only at hq
                         simp [go_sem, Oper.quietAt, Oper.quietUpon, BigFrame.eval_const, BigFrame.eval_global, BigFrame.eval_func, ↓IntWalk.iteOmega, *]
                         first | done | rfl | (refine calm_same hq (s_l1Least _ _ _) rfl))
                      simp only [Act.put, List.setIfInBounds_toArray, List.set_cons_succ, List.set_cons_zero]
                      go_big_quiet_on))
          refine wpQuiet_nil ?_
          intro wc hcalm
          try dsimp only at hcalm
          have H3 := hid (H2.out.below hcalm.1)
          have A6 := hid (A4.out.below hcalm.1)
          have A7 := hid (A5.out.below hcalm.1)
          have BX := hid (bstep BW.out hcalm.1)
          clear hcalm hwk hwj hk1 hj1 X
          generalize hmost : min (pt a (k - 1)).1 (pt b (j - 1)).1 = most
          have MO := hid hmost
          clear hmost
          go_wp2
          go_loopg [10] (k + j) (fun g i wr => ∃ r : Nat, r ≤ k + j ∧ g = k + j - r ∧ i = .int .i64 r ∧ Hid (Below wc.heap.size wc wr) ∧ Hid (∀ i, i < r → under a k b j (pt (a ++ b) i).1 = false))
          case atStart => exact ⟨0, Nat.zero_le _, rfl, rfl, hid (Below.refl _ _), hid (fun i hi => absurd hi (by omega))⟩
          case round =>
            obtain ⟨r, hr, rfl, rfl, hB, hh⟩ := hrel
            by_cases hlt3 : r < k + j
            · obtain ⟨b0, off0, rfl, hbw, x0⟩ := (H3.out.at.below hB.out).2 r hlt3
              rw [fl_get _ _ (by have := LL.out; rw [fl_len] at this; omega)] at x0
              have Q0 : Hid (0 ≤ (pt (a ++ b) r).1) := hid (by
                rw [pt_app LA.out]
                split
                · exact (pt_flow GA.out LA.out (by omega)).1.1
                · exact (pt_flow GB.out LB.out (by omega)).1.1)
              by_cases hmo : most < (pt (a ++ b) r).1
              · have U : Hid (under a k b j (pt (a ++ b) r).1 = false) := hid (by
                  have := MO.out
                  have : hasQ a k (pt (a ++ b) r).1 = false ∨ hasQ b j (pt (a ++ b) r).1 = false := by
                    by_cases h : (pt a (k - 1)).1 < (pt (a ++ b) r).1
                    · exact .inl (by unfold hasQ; rw [inR_no]; omega)
                    · exact .inr (by unfold hasQ; rw [inR_no]; omega)
                  rcases this with h | h <;> simp [under, h])
                go_wp2
                go_roundg (k + j - (r + 1))
                case rel =>
                  refine ⟨r + 1, by omega, rfl, by go_num, hB, hid (fun i hi => ?_)⟩
                  by_cases e : i = r
                  · subst e; exact U.out
                  · exact hh.out i (by omega)
                case measure => omega
              · have qa : hasQ a k (pt (a ++ b) r).1 = true := inR_iff.2 (by have := MO.out; have := Q0.out; omega)
                have qb : hasQ b j (pt (a ++ b) r).1 = true := inR_iff.2 (by have := MO.out; have := Q0.out; omega)
                obtain ⟨f1, f2, f3⟩ := h_fit GA.out LA.out qa
                obtain ⟨-, g2, g3⟩ := h_fit GB.out LB.out qb
                have p1 := mul_in (x := hN a k (pt (a ++ b) r).1) (y := hD b j (pt (a ++ b) r).1) (A := 4000000) (B := 1000) (by omega) (by omega)
                have p2 := mul_in (x := hN b j (pt (a ++ b) r).1) (y := hD a k (pt (a ++ b) r).1) (A := 4000000) (B := 1000) (by omega) (by omega)
                simp only [Int.reduceMul] at p1 p2
                have SA := hid (segK_is (seg_flow GA.out LA.out qa))
                have SB := hid (segK_is (seg_flow GB.out LB.out qb))
                have QA := hid qa
                have QB := hid qb
                clear qa qb
                go_wp2_with fail
                refine (s_l7Head _ _ _ _ _ a _ (A6.out.below hB.out) GA.out SA.out f1).mono ?_
                rintro e w5 ⟨rfl, hb5⟩
                have B5 := hid (bstep hB.out hb5)
                have x5 := ((bcell hb5).1 _ _ hbw).trans x0
                have hz5 := World.block_lt_of_cell? w5 _ x5
                clear hb5
                go_wp2_with fail
                refine (s_l7Head _ _ _ _ _ b _ (A7.out.below B5.out) GB.out SB.out f1).mono ?_
                rintro e w6 ⟨rfl, hb6⟩
                have B6 := hid (bstep B5.out hb6)
                clear hb6
                have e1 : lowN (hdN a (segK a k (pt (a ++ b) r).1) (pt (a ++ b) r).1) (hdD a (segK a k (pt (a ++ b) r).1)) = hN a k (pt (a ++ b) r).1 := rfl
                have e2 : lowD (hdN a (segK a k (pt (a ++ b) r).1) (pt (a ++ b) r).1) (hdD a (segK a k (pt (a ++ b) r).1)) = hD a k (pt (a ++ b) r).1 := rfl
                have e3 : lowN (hdN b (segK b j (pt (a ++ b) r).1) (pt (a ++ b) r).1) (hdD b (segK b j (pt (a ++ b) r).1)) = hN b j (pt (a ++ b) r).1 := rfl
                have e4 : lowD (hdN b (segK b j (pt (a ++ b) r).1) (pt (a ++ b) r).1) (hdD b (segK b j (pt (a ++ b) r).1)) = hD b j (pt (a ++ b) r).1 := rfl
                rw [e1, e2, e3, e4]
                clear e1 e2 e3 e4
                by_cases hu : hN a k (pt (a ++ b) r).1 * hD b j (pt (a ++ b) r).1 < hN b j (pt (a ++ b) r).1 * hD a k (pt (a ++ b) r).1
                · have E := hid (show ((a ++ b).any fun p => under a k b j p.1) = true from any_at (k := r) (by have := LA.out; have := LB.out; rw [List.length_append]; omega) (by show under a k b j (pt (a ++ b) r).1 = true; simp [under, QA.out, QB.out, hu]))
                  go_wp2
                  go_ret2
                  rw [E.out]
                  exact ⟨rfl, bstep BX.out B6.out⟩
                · have U : Hid (under a k b j (pt (a ++ b) r).1 = false) := hid (by simp [under, hu])
                  go_wp2
                  go_roundg (k + j - (r + 1))
                  case rel =>
                    refine ⟨r + 1, by omega, rfl, by go_num, B6, hid (fun i hi => ?_)⟩
                    by_cases e : i = r
                    · subst e; exact U.out
                    · exact hh.out i (by omega)
                  case measure => omega
            · obtain rfl : r = k + j := by omega
              have E := hid (show ((a ++ b).any fun p => under a k b j p.1) = false from any_none (fun i hi => hh.out i (by have := LA.out; have := LB.out; rw [List.length_append] at hi; omega)))
              go_wp2
              go_ret2
              rw [E.out]
              exact ⟨rfl, bstep BX.out hB.out⟩

end Go.Proofs.Ytpcbeapajlchgaa

/-
  Curves: FlowAt.
-/
set_option linter.unusedVariables false
set_option linter.unusedSimpArgs false
namespace Go.Proofs.Ytpcbeapajlchgaa
open Go.RowKit

/-- What is kept while the last head and the first one are read. -/
abbrev FlowS (l : List Pt) (n b0 off0 : Nat) (w w' : World) : Prop := Below w.heap.size w w' ∧ w'.cell? ⟨b0, off0 + (n - 1) * 2 + 1, none⟩ = some (.int .i64 (pt l (n - 1)).2) ∧ w'.cell? ⟨b0, off0 + 1, none⟩ = some (.int .i64 (pt l 0).2)
theorem FlowS.keep {l : List Pt} {n b0 off0 : Nat} {w : World} (wy w5 : World) (h : FlowS l n b0 off0 w wy) (hb : Below wy.heap.size wy w5) : FlowS l n b0 off0 w w5 :=
  let ⟨h0, x0, x1⟩ := h
  ⟨bstep h0 hb, (hb.cell (World.block_lt_of_cell? wy _ x0)).trans x0, (hb.cell (World.block_lt_of_cell? wy _ x1)).trans x1⟩

set_option maxHeartbeats 1000000 in
theorem i_FlowAt_yes (a : Option Addr) (n c k : Nat) (q : Int) (l : List Pt) (w : World) (h : PAt w a n l) (hg : goodCurve l = true) (hq0 : hasH l n q = true) (hk : Seg n (fun j => (pt l j).2 ≤ q) k) :
    Calls Try.prog 25 #[.slice a n c, .int .i64 q] w fun e w' => e = .returned (.tuple #[.int .i64 (lowN (flN l k q) (flD l k)), .int .i64 (lowD (flN l k q) (flD l k)), .bool true]) ∧ Below w.heap.size w w' := by
  have hp := pt_flow hg h.1 (k := n - 1) (by have := good_len hg h.1; omega)
  have hp0 := pt_flow hg h.1 (k := 0) (by have := good_len hg h.1; omega)
  have hq2 : 0 ≤ q ∧ q ≤ 1000 := by have := inR_iff.1 hq0; omega
  have HK := hid hk
  have hl := good_len hg h.1
  have hw : IntKind.i64.wrap ((n : Int) - 1) = ((n - 1 : Nat) : Int) := (IntWalk.i64_in _ (by omega)).trans (by omega)
  have hn2 : n - 1 < n := by omega
  have hn3 : 0 < n := by omega
  obtain ⟨b0, off0, rfl, hbw, x0, x1⟩ := PAt.get h (n - 1) (by omega)
  obtain ⟨b1, off1, e1, _, y0, y1⟩ := PAt.get h 0 (by omega)
  cases e1
  simp only [Nat.zero_mul, Nat.add_zero] at y1
  have H := hid h
  have HG := hid hg
  have HQ := hid (show inR q (pt l (n - 1)).2 (pt l 0).2 = true from hq0)
  have X := hid (show FlowS l n b0 off0 w w.drew from ⟨(Below.refl _ _).drew, x1, y1⟩)
  clear h hg hq0 hp hp0 hk x0 x1 y0 y1
  go_enter Try.func25, Try.ntmps25
  go_upto_region 1 with fail
  refine wp_region_calm (C := (fun w' => Below w.heap.size w w' ∧ w'.cell? ⟨b0, off0 + (n - 1) * 2 + 1, none⟩ = some (.int .i64 (pt l (n - 1)).2) ∧ w'.cell? ⟨b0, off0 + 1, none⟩ = some (.int .i64 (pt l 0).2))) (by kernel_rfl) (by kernel_rfl) (X.out) ?_
  repeat
    first
      | go_big_quiet_skip
      | (go_big_quiet_want
         first
           | (unfold Oper.quiet
              apply Exists.intro
              refine ⟨fun wq hq => ?_, ?_⟩
              · (try dsimp only at hq
                 simp [go_sem, Oper.quietAt, Oper.quietUpon, BigFrame.eval_const, BigFrame.eval_global, BigFrame.eval_func, ↓IntWalk.iteOmega, *]
                 first | done | rfl | (first | (refine calm_call hq FlowS.keep (i_IsValidCurve _ _ _ l _ (H.out.below hq.1) (by omega)) (by rw [HG.out])) | (refine calm_same hq (i_inside _ _ _ _) (by rw [HQ.out]))))
              simp only [Act.put, List.setIfInBounds_toArray, List.set_cons_succ, List.set_cons_zero]
              go_big_quiet_on))
  refine wpQuiet_nil ?_
  intro wc hcalm
  try dsimp only at hcalm
  obtain ⟨hb1, -, -⟩ := hcalm
  have hz := hb1.size
  go_wp2_with fail
  refine (i_flowAt _ _ _ _ _ l _ (H.out.below hb1) HG.out HK.out hq2).mono ?_
  rintro e w2 ⟨rfl, hb2⟩
  have hz2 := hb2.size
  go_wp2
  go_quiet (fail)
  go_wp2
  go_ret3
  refine ⟨rfl, ?_⟩
  repeat' (first | (with_reducible exact Below.refl _ _) | (with_reducible assumption) | (with_reducible refine bstep ?_ (by with_reducible assumption)) | (with_reducible refine Below.alloc ?_ ?_ _) | (with_reducible refine Below.setCell ?_ ?_ _) | (with_reducible refine Below.drew ?_) | (with_reducible refine below_drewN ?_ _) | omega | (simp only [World.size_alloc, World.size_setCell, World.size_drew]; omega) | (simp; omega))

set_option maxHeartbeats 1000000 in
theorem i_FlowAt_no (a : Option Addr) (n c : Nat) (q : Int) (l : List Pt) (w : World) (h : PAt w a n l) (hn : n ≤ 1048576) (hg : (goodCurve l && hasH l n q) = false) :
    Calls Try.prog 25 #[.slice a n c, .int .i64 q] w fun e w' => e = .returned (.tuple #[.int .i64 0, .int .i64 0, .bool false]) ∧ Below w.heap.size w w' := by
  cases h1 : goodCurve l
  · have H := hid h
    have HG := hid h1
    clear h hg h1
    go_enter Try.func25, Try.ntmps25
    go_upto_region 1 with fail
    refine wp_region_calm (C := (fun w' => Below w.heap.size w w')) (by kernel_rfl) (by kernel_rfl) ((Below.refl _ _).drew) ?_
    repeat
      first
        | go_big_quiet_skip
        | (go_big_quiet_want
           first
             | (unfold Oper.quiet
                apply Exists.intro
                refine ⟨fun wq hq => ?_, ?_⟩
                · (try dsimp only at hq
                   simp [go_sem, Oper.quietAt, Oper.quietUpon, BigFrame.eval_const, BigFrame.eval_global, BigFrame.eval_func, ↓IntWalk.iteOmega, *]
                   first | done | rfl | (first | (refine calm_call hq (fun _ _ h1 h2 => bstep h1 h2) (i_IsValidCurve _ _ _ l _ (H.out.below hq) (by omega)) (by rw [HG.out]))))
                simp only [Act.put, List.setIfInBounds_toArray, List.set_cons_succ, List.set_cons_zero]
                go_big_quiet_on))
    refine wpQuiet_nil ?_
    intro wc hcalm
    try dsimp only at hcalm
    go_wp2
    go_ret3
    exact ⟨rfl, hcalm⟩
  · have h2 : hasH l n q = false := by rw [h1] at hg; exact hg
    clear hg
    have hl := good_len h1 h.1
    have hw : IntKind.i64.wrap ((n : Int) - 1) = ((n - 1 : Nat) : Int) := (IntWalk.i64_in _ (by omega)).trans (by omega)
    have hn2 : n - 1 < n := by omega
    have hn3 : 0 < n := by omega
    obtain ⟨b0, off0, rfl, hbw, x0, x1⟩ := PAt.get h (n - 1) (by omega)
    obtain ⟨b1, off1, e1, _, y0, y1⟩ := PAt.get h 0 (by omega)
    cases e1
    simp only [Nat.zero_mul, Nat.add_zero] at y1
    have H := hid h
    have HG := hid h1
    have HQ := hid (show inR q (pt l (n - 1)).2 (pt l 0).2 = false from h2)
    have X := hid (show FlowS l n b0 off0 w w.drew from ⟨(Below.refl _ _).drew, x1, y1⟩)
    clear h h1 h2 x0 x1 y0 y1
    go_enter Try.func25, Try.ntmps25
    go_upto_region 1 with fail
    refine wp_region_calm (C := (fun w' => Below w.heap.size w w' ∧ w'.cell? ⟨b0, off0 + (n - 1) * 2 + 1, none⟩ = some (.int .i64 (pt l (n - 1)).2) ∧ w'.cell? ⟨b0, off0 + 1, none⟩ = some (.int .i64 (pt l 0).2))) (by kernel_rfl) (by kernel_rfl) (X.out) ?_
    repeat
      first
        | go_big_quiet_skip
        | (go_big_quiet_want
           first
             | (unfold Oper.quiet
                apply Exists.intro
                refine ⟨fun wq hq => ?_, ?_⟩
                · (try dsimp only at hq
                   simp [go_sem, Oper.quietAt, Oper.quietUpon, BigFrame.eval_const, BigFrame.eval_global, BigFrame.eval_func, ↓IntWalk.iteOmega, *]
                   first | done | rfl | (first | (refine calm_call hq FlowS.keep (i_IsValidCurve _ _ _ l _ (H.out.below hq.1) (by omega)) (by rw [HG.out])) | (refine calm_same hq (i_inside _ _ _ _) (by rw [HQ.out]))))
                simp only [Act.put, List.setIfInBounds_toArray, List.set_cons_succ, List.set_cons_zero]
                go_big_quiet_on))
    refine wpQuiet_nil ?_
    intro wc hcalm
    try dsimp only at hcalm
    obtain ⟨hb1, -, -⟩ := hcalm

    go_wp2
    go_ret3
    exact ⟨rfl, hb1⟩

set_option maxHeartbeats 1000000 in
theorem s_FlowAt_yes (a : Option Addr) (n c k : Nat) (q : Int) (l : List Pt) (w : World) (h : PAt w a n l) (hg : goodCurve l = true) (hq0 : hasH l n q = true) (hk : Seg n (fun j => (pt l j).2 ≤ q) k) :
    Calls Try.prog 24 #[.slice a n c, .int .i64 q] w fun e w' => e = .returned (.tuple #[.int .i64 (lowN (flN l k q) (flD l k)), .int .i64 (lowD (flN l k q) (flD l k)), .bool true]) ∧ Below w.heap.size w w' := by
  have hp := pt_flow hg h.1 (k := n - 1) (by have := good_len hg h.1; omega)
  have hp0 := pt_flow hg h.1 (k := 0) (by have := good_len hg h.1; omega)
  have hq2 : 0 ≤ q ∧ q ≤ 1000 := by have := inR_iff.1 hq0; omega
  have HK := hid hk
  have hl := good_len hg h.1
  have hw : IntKind.i64.wrap ((n : Int) - 1) = ((n - 1 : Nat) : Int) := (IntWalk.i64_in _ (by omega)).trans (by omega)
  have hn2 : n - 1 < n := by omega
  have hn3 : 0 < n := by omega
  obtain ⟨b0, off0, rfl, hbw, x0, x1⟩ := PAt.get h (n - 1) (by omega)
  obtain ⟨b1, off1, e1, _, y0, y1⟩ := PAt.get h 0 (by omega)
  cases e1
  simp only [Nat.zero_mul, Nat.add_zero] at y1
  have H := hid h
  have HG := hid hg
  have HQ := hid (show inR q (pt l (n - 1)).2 (pt l 0).2 = true from hq0)
  have X := hid (show FlowS l n b0 off0 w w.drew from ⟨(Below.refl _ _).drew, x1, y1⟩)
  clear h hg hq0 hp hp0 hk x0 x1 y0 y1
  go_enter Try.func24, Try.ntmps24
  go_upto_region 1 with fail
  refine wp_region_calm (C := (fun w' => Below w.heap.size w w' ∧ w'.cell? ⟨b0, off0 + (n - 1) * 2 + 1, none⟩ = some (.int .i64 (pt l (n - 1)).2) ∧ w'.cell? ⟨b0, off0 + 1, none⟩ = some (.int .i64 (pt l 0).2))) (by kernel_rfl) (by kernel_rfl) (X.out) ?_
  repeat
    first
      | go_big_quiet_skip
      | (go_big_quiet_want
         first
           | (unfold Oper.quiet
              apply Exists.intro
              refine ⟨fun wq hq => ?_, ?_⟩
              · (try dsimp only at hq
                 simp [go_sem, Oper.quietAt, Oper.quietUpon, BigFrame.eval_const, BigFrame.eval_global, BigFrame.eval_func, ↓IntWalk.iteOmega, *]
                 first | done | rfl | (first | (refine calm_call hq FlowS.keep (s_l7Good _ _ _ l _ (H.out.below hq.1) (by omega)) (by rw [HG.out])) | (refine calm_same hq (s_l1In _ _ _ _) (by rw [HQ.out]))))
              simp only [Act.put, List.setIfInBounds_toArray, List.set_cons_succ, List.set_cons_zero]
              go_big_quiet_on))
  refine wpQuiet_nil ?_
  intro wc hcalm
  try dsimp only at hcalm
  obtain ⟨hb1, -, -⟩ := hcalm
  have hz := hb1.size
  go_wp2_with fail
  refine (s_l7Flow _ _ _ _ _ l _ (H.out.below hb1) HG.out HK.out hq2).mono ?_
  rintro e w2 ⟨rfl, hb2⟩
  have hz2 := hb2.size
  go_wp2
  go_ret3
  refine ⟨rfl, ?_⟩
  repeat' (first | (with_reducible exact Below.refl _ _) | (with_reducible assumption) | (with_reducible refine bstep ?_ (by with_reducible assumption)) | (with_reducible refine Below.alloc ?_ ?_ _) | (with_reducible refine Below.setCell ?_ ?_ _) | (with_reducible refine Below.drew ?_) | (with_reducible refine below_drewN ?_ _) | omega | (simp only [World.size_alloc, World.size_setCell, World.size_drew]; omega) | (simp; omega))

set_option maxHeartbeats 1000000 in
theorem s_FlowAt_no (a : Option Addr) (n c : Nat) (q : Int) (l : List Pt) (w : World) (h : PAt w a n l) (hn : n ≤ 1048576) (hg : (goodCurve l && hasH l n q) = false) :
    Calls Try.prog 24 #[.slice a n c, .int .i64 q] w fun e w' => e = .returned (.tuple #[.int .i64 0, .int .i64 0, .bool false]) ∧ Below w.heap.size w w' := by
  cases h1 : goodCurve l
  · have H := hid h
    have HG := hid h1
    clear h hg h1
    go_enter Try.func24, Try.ntmps24
    go_upto_region 1 with fail
    refine wp_region_calm (C := (fun w' => Below w.heap.size w w')) (by kernel_rfl) (by kernel_rfl) ((Below.refl _ _).drew) ?_
    repeat
      first
        | go_big_quiet_skip
        | (go_big_quiet_want
           first
             | (unfold Oper.quiet
                apply Exists.intro
                refine ⟨fun wq hq => ?_, ?_⟩
                · (try dsimp only at hq
                   simp [go_sem, Oper.quietAt, Oper.quietUpon, BigFrame.eval_const, BigFrame.eval_global, BigFrame.eval_func, ↓IntWalk.iteOmega, *]
                   first | done | rfl | (first | (refine calm_call hq (fun _ _ h1 h2 => bstep h1 h2) (s_l7Good _ _ _ l _ (H.out.below hq) (by omega)) (by rw [HG.out]))))
                simp only [Act.put, List.setIfInBounds_toArray, List.set_cons_succ, List.set_cons_zero]
                go_big_quiet_on))
    refine wpQuiet_nil ?_
    intro wc hcalm
    try dsimp only at hcalm
    go_wp2
    go_ret3
    exact ⟨rfl, hcalm⟩
  · have h2 : hasH l n q = false := by rw [h1] at hg; exact hg
    clear hg
    have hl := good_len h1 h.1
    have hw : IntKind.i64.wrap ((n : Int) - 1) = ((n - 1 : Nat) : Int) := (IntWalk.i64_in _ (by omega)).trans (by omega)
    have hn2 : n - 1 < n := by omega
    have hn3 : 0 < n := by omega
    obtain ⟨b0, off0, rfl, hbw, x0, x1⟩ := PAt.get h (n - 1) (by omega)
    obtain ⟨b1, off1, e1, _, y0, y1⟩ := PAt.get h 0 (by omega)
    cases e1
    simp only [Nat.zero_mul, Nat.add_zero] at y1
    have H := hid h
    have HG := hid h1
    have HQ := hid (show inR q (pt l (n - 1)).2 (pt l 0).2 = false from h2)
    have X := hid (show FlowS l n b0 off0 w w.drew from ⟨(Below.refl _ _).drew, x1, y1⟩)
    clear h h1 h2 x0 x1 y0 y1
    go_enter Try.func24, Try.ntmps24
    go_upto_region 1 with fail
    refine wp_region_calm (C := (fun w' => Below w.heap.size w w' ∧ w'.cell? ⟨b0, off0 + (n - 1) * 2 + 1, none⟩ = some (.int .i64 (pt l (n - 1)).2) ∧ w'.cell? ⟨b0, off0 + 1, none⟩ = some (.int .i64 (pt l 0).2))) (by kernel_rfl) (by kernel_rfl) (X.out) ?_
    repeat
      first
        | go_big_quiet_skip
        | (go_big_quiet_want
           first
             | (unfold Oper.quiet
                apply Exists.intro
                refine ⟨fun wq hq => ?_, ?_⟩
                · (try dsimp only at hq
                   simp [go_sem, Oper.quietAt, Oper.quietUpon, BigFrame.eval_const, BigFrame.eval_global, BigFrame.eval_func, ↓IntWalk.iteOmega, *]
                   first | done | rfl | (first | (refine calm_call hq FlowS.keep (s_l7Good _ _ _ l _ (H.out.below hq.1) (by omega)) (by rw [HG.out])) | (refine calm_same hq (s_l1In _ _ _ _) (by rw [HQ.out]))))
                simp only [Act.put, List.setIfInBounds_toArray, List.set_cons_succ, List.set_cons_zero]
                go_big_quiet_on))
    refine wpQuiet_nil ?_
    intro wc hcalm
    try dsimp only at hcalm
    obtain ⟨hb1, -, -⟩ := hcalm

    go_wp2
    go_ret3
    exact ⟨rfl, hb1⟩

end Go.Proofs.Ytpcbeapajlchgaa

