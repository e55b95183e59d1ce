/-
  Texts of this claim, joined: CurveA, CurveC, SOne, CurveR.
-/
import Derived.Deep.RegionHeld3
import Derived.Deep.AppendLies
import Derived.Test.YtpcbeapajlchgaaPu1
/-
  Curves: which are valid.
-/
set_option linter.unusedVariables false
set_option linter.unusedSimpArgs false
namespace Go.Proofs.Ytpcbeapajlchgaa
open Go.RowKit

abbrev Pt := Int × Int
/-- A point's cells. -/
def pf (p : Pt) : List Value := [.int .i64 p.1, .int .i64 p.2]
theorem pf_len (p : Pt) : (pf p).length = 2 := rfl
theorem pf_one (p : Pt) : ∀ u ∈ pf p, u.oneCell' = true := by intro u hu; simp [pf] at hu; rcases hu with rfl | rfl <;> rfl
abbrev PAt (w : World) (a : Option Addr) (n : Nat) (l : List Pt) : Prop := SAt pf 2 w a n l
abbrev OwnP (w : World) (B : Nat) (v : Value) (l : List Pt) : Prop := OwnS pf 2 52 w B v l
/-- Point k of a curve. -/
def pt (l : List Pt) (k : Nat) : Pt := l[k]?.getD (0, 0)

theorem PAt.get {w : World} {a : Option Addr} {n : Nat} {l : List Pt} (h : PAt w a n l) (k : Nat) (hk : k < n) :
    ∃ b off, a = some ⟨b, off, none⟩ ∧ b < w.heap.size ∧ w.cell? ⟨b, off + k * 2, none⟩ = some (.int .i64 (pt l k).1) ∧ w.cell? ⟨b, off + k * 2 + 1, none⟩ = some (.int .i64 (pt l k).2) :=
  let ⟨b, off, h1, h2, h3⟩ := h.2 k hk
  ⟨b, off, h1, h2, h3 0 (by decide), h3 1 (by decide)⟩

theorem i_isCurveValue (n : Int) (w : World) : Calls Try.prog 56 #[.int .i64 n] w fun e w' => e = .returned (.bool (inR n 0 1000)) ∧ w = w' := by
  go_enter Try.func56, Try.ntmps56
  go_wp2_with fail
  refine (i_inside _ _ _ _).mono ?_
  rintro e w' ⟨rfl, rfl⟩
  go_wp2
  go_ret
  exact ⟨rfl, rfl⟩
theorem s_l7Value (n : Int) (w : World) : Calls Try.prog 74 #[.int .i64 n] w fun e w' => e = .returned (.bool (inR n 0 1000)) ∧ w = w' := by
  go_enter Try.func74, Try.ntmps74
  go_wp2_with fail
  refine (s_l1In _ _ _ _).mono ?_
  rintro e w' ⟨rfl, rfl⟩
  go_wp2
  go_ret
  exact ⟨rfl, rfl⟩

def okAt (l : List Pt) (k : Nat) : Bool := inR (pt l k).1 0 1000 && inR (pt l k).2 0 1000 && (decide (k = 0) || (decide ((pt l (k - 1)).1 < (pt l k).1) && decide ((pt l k).2 < (pt l (k - 1)).2)))
def goodCurve (l : List Pt) : Bool := inR l.length 2 6 && decide ((pt l 0).1 = 0) && (List.range l.length).all (okAt l)

theorem goodCurve_bad {l : List Pt} {k : Nat} (hk : k < l.length) (h : okAt l k = false) : goodCurve l = false := by
  unfold goodCurve
  have : (List.range l.length).all (okAt l) = false := by
    rw [List.all_eq_false]
    exact ⟨k, List.mem_range.2 hk, by simp [h]⟩
  rw [this]; simp
theorem goodCurve_len {l : List Pt} (h : inR l.length 2 6 = false) : goodCurve l = false := by simp [goodCurve, h]
theorem goodCurve_first {l : List Pt} (h : (pt l 0).1 ≠ 0) : goodCurve l = false := by simp [goodCurve, h]
theorem goodCurve_all {l : List Pt} (h1 : inR l.length 2 6 = true) (h2 : (pt l 0).1 = 0) (h3 : ∀ k, k < l.length → okAt l k = true) : goodCurve l = true := by
  simp only [goodCurve, h1, h2, decide_true, Bool.and_self, Bool.true_and, List.all_eq_true, List.mem_range]
  exact h3

theorem okAt_1 {l : List Pt} {k : Nat} (h : inR (pt l k).1 0 1000 = false) : okAt l k = false := by simp [okAt, h]
theorem okAt_2 {l : List Pt} {k : Nat} (h : inR (pt l k).2 0 1000 = false) : okAt l k = false := by simp [okAt, h]
theorem okAt_3 {l : List Pt} {k : Nat} (h0 : k ≠ 0) (h : (pt l k).1 ≤ (pt l (k - 1)).1) : okAt l k = false := by
  have : ¬ (pt l (k - 1)).1 < (pt l k).1 := by omega
  simp [okAt, h0, this]
theorem okAt_4 {l : List Pt} {k : Nat} (h0 : k ≠ 0) (h : (pt l (k - 1)).2 ≤ (pt l k).2) : okAt l k = false := by
  have : ¬ (pt l k).2 < (pt l (k - 1)).2 := by omega
  simp [okAt, h0, this]
theorem okAt_5 {l : List Pt} {k : Nat} (h1 : inR (pt l k).1 0 1000 = true) (h2 : inR (pt l k).2 0 1000 = true) (h3 : k = 0 ∨ ((pt l (k - 1)).1 < (pt l k).1 ∧ (pt l k).2 < (pt l (k - 1)).2)) : okAt l k = true := by
  rcases h3 with h3 | ⟨h3, h4⟩
  · subst h3; simp [okAt, h1, h2]
  · simp [okAt, h1, h2, h3, h4]

theorem bwalk {w wr : World} (h : Below w.heap.size w wr) (o : Obj) (q : Nat) : Below w.heap.size w ((wr.alloc o).drewN q) := below_drewN (h.alloc h.size o) q
theorem all_next {p : Nat → Bool} {k : Nat} (h : ∀ j, j < k → p j = true) (hk : p k = true) : ∀ j, j < k + 1 → p j = true := fun j hj => by
  by_cases e : j = k
  · subst e; exact hk
  · exact h j (by omega)

set_option maxHeartbeats 2000000 in
theorem i_IsValidCurve (a : Option Addr) (n c : Nat) (l : List Pt) (w : World) (h : PAt w a n l) (hn : n ≤ 1048576) :
    Calls Try.prog 18 #[.slice a n c] w fun e w' => e = .returned (.bool (goodCurve l)) ∧ Below w.heap.size w w' := by
  have H := hid h
  have HL := hid h.1
  clear h
  cases h1 : inR (n : Int) 2 6
  · have F := hid (goodCurve_len (l := l) (by rw [HL.out]; exact h1))
    go_enter Try.func18, Try.ntmps18
    go_wp2_with fail
    refine (i_inside _ _ _ _).mono ?_
    rintro e _ ⟨rfl, rfl⟩
    go_wp2
    go_ret
    exact ⟨ret_bool F.out.symm, Below.refl _ _⟩
  · have hn2 := inR_iff.1 h1
    obtain ⟨b0, off0, rfl, hb0, c00, c01⟩ := PAt.get H.out 0 (by omega)
    simp only [Nat.zero_mul, Nat.add_zero] at c00 c01
    by_cases h2 : (pt l 0).1 = 0
    · have h2' : ((pt l 0).1 != 0) = false := by simp [h2]
      have H2 := hid h2
      have H1 := hid h1
      clear h2
      go_enter Try.func18, Try.ntmps18
      go_wp2_with fail
      refine (i_inside _ _ _ _).mono ?_
      rintro e _ ⟨rfl, rfl⟩
      go_wp2
      clear c00 c01 h2'
      go_loopg [18] n (fun g i wr => ∃ k : Nat, k ≤ n ∧ g = n - k ∧ i = .int .i64 k ∧ Hid (Below w.heap.size w wr ∧ ∀ j, j < k → okAt l j = true))
      case atStart => exact ⟨0, Nat.zero_le _, rfl, rfl, Below.refl _ _, fun j hj => absurd hj (by omega)⟩
      case round =>
        obtain ⟨k, hk, rfl, rfl, hh⟩ := hrel
        by_cases hlt : k < n
        · obtain ⟨b1, off1, e1, hbw, x0, x1⟩ := PAt.get (H.out.below hh.out.1) k hlt
          cases e1
          cases f1 : inR (pt l k).1 0 1000
          · have F := hid (goodCurve_bad (by rw [HL.out]; exact hlt) (okAt_1 f1))
            go_upto_region 6 with fail
            go_quiet (first | (go_at_call 56; exact quiet_eq (i_isCurveValue _ _)))
            go_wp2
            go_ret
            exact ⟨ret_bool F.out.symm, bwalk hh.out.1 _ _⟩
          · cases f2 : inR (pt l k).2 0 1000
            · have F := hid (goodCurve_bad (by rw [HL.out]; exact hlt) (okAt_2 f2))
              go_upto_region 6 with fail
              go_quiet (first | (go_at_call 56; exact quiet_eq (i_isCurveValue _ _)))
              go_wp2
              go_ret
              exact ⟨ret_bool F.out.symm, bwalk hh.out.1 _ _⟩
            · by_cases hk0 : k = 0
              · have hk1 : ¬ (0 < k) := by omega
                have Hk := hid hk0
                clear hk0
                have F := hid (okAt_5 f1 f2 (Or.inl Hk.out))
                go_upto_region 6 with fail
                go_quiet (first | (go_at_call 56; exact quiet_eq (i_isCurveValue _ _)))
                go_wp2
                go_roundg (n - (k + 1))
                case measure => omega
                case rel => exact ⟨k + 1, by omega, rfl, by go_num, bwalk hh.out.1 _ _, all_next hh.out.2 F.out⟩
              · have hk1 : 0 < k := by omega
                obtain ⟨b2, off2, e2, _, y0, y1⟩ := PAt.get (H.out.below hh.out.1) (k - 1) (by omega)
                cases e2
                have hw : IntKind.i64.wrap ((k : Int) - 1) = ((k - 1 : Nat) : Int) := (IntWalk.i64_in _ (by omega)).trans (by omega)
                by_cases f3 : (pt l k).1 ≤ (pt l (k - 1)).1
                · have F := hid (goodCurve_bad (by rw [HL.out]; exact hlt) (okAt_3 hk0 f3))
                  go_upto_region 6 with fail
                  go_quiet (first | (go_at_call 56; exact quiet_eq (i_isCurveValue _ _)))
                  go_wp2
                  go_ret
                  exact ⟨ret_bool F.out.symm, bwalk hh.out.1 _ _⟩
                · have f3' : (pt l (k - 1)).1 < (pt l k).1 := by omega
                  by_cases f4 : (pt l (k - 1)).2 ≤ (pt l k).2
                  · have F := hid (goodCurve_bad (by rw [HL.out]; exact hlt) (okAt_4 hk0 f4))
                    go_upto_region 6 with fail
                    go_quiet (first | (go_at_call 56; exact quiet_eq (i_isCurveValue _ _)))
                    go_wp2
                    go_ret
                    exact ⟨ret_bool F.out.symm, bwalk hh.out.1 _ _⟩
                  · have f4' : (pt l k).2 < (pt l (k - 1)).2 := by omega
                    have F := hid (okAt_5 f1 f2 (Or.inr ⟨f3', f4'⟩))
                    go_upto_region 6 with fail
                    go_quiet (first | (go_at_call 56; exact quiet_eq (i_isCurveValue _ _)))
                    go_wp2
                    go_roundg (n - (k + 1))
                    case measure => omega
                    case rel => exact ⟨k + 1, by omega, rfl, by go_num, bwalk hh.out.1 _ _, all_next hh.out.2 F.out⟩
        · obtain rfl : k = n := by omega
          have F := hid (goodCurve_all (l := l) (by rw [HL.out]; exact H1.out) H2.out (by rw [HL.out]; exact hh.out.2))
          go_wp2
          go_ret
          exact ⟨ret_bool F.out.symm, hh.out.1⟩
    · have h2' : ((pt l 0).1 != 0) = true := by simp [h2]
      have F := hid (goodCurve_first h2)
      go_enter Try.func18, Try.ntmps18
      go_wp2_with fail
      refine (i_inside _ _ _ _).mono ?_
      rintro e _ ⟨rfl, rfl⟩
      go_wp2
      go_ret
      exact ⟨ret_bool F.out.symm, Below.refl _ _⟩


set_option maxHeartbeats 2000000 in
theorem s_l7Good (a : Option Addr) (n c : Nat) (l : List Pt) (w : World) (h : PAt w a n l) (hn : n ≤ 1048576) :
    Calls Try.prog 53 #[.slice a n c] w fun e w' => e = .returned (.bool (goodCurve l)) ∧ Below w.heap.size w w' := by
  have H := hid h
  have HL := hid h.1
  clear h
  go_enter Try.func53, Try.ntmps53
  go_wp2
  go_loopg [3] n (fun g i wr => ∃ k : Nat, k ≤ n ∧ g = n - k ∧ i = .int .i64 k ∧ Hid (Below w.heap.size w wr ∧ (∀ j, j < k → okAt l j = true) ∧ (0 < k → (pt l 0).1 = 0)))
  case atStart => exact ⟨0, Nat.zero_le _, rfl, rfl, Below.refl _ _, fun j hj => absurd hj (by omega), fun h => absurd h (by omega)⟩
  case round =>
    obtain ⟨k, hk, rfl, rfl, hh⟩ := hrel
    by_cases hlt : k < n
    · obtain ⟨b0, off0, rfl, hbw, x0, x1⟩ := PAt.get (H.out.below hh.out.1) k hlt
      cases f1 : inR (pt l k).1 0 1000
      · have F := hid (goodCurve_bad (by rw [HL.out]; exact hlt) (okAt_1 f1))
        go_wp2_with fail
        refine (s_l7Value _ _).mono ?_
        rintro e _ ⟨rfl, rfl⟩
        go_wp2
        go_ret
        exact ⟨ret_bool F.out.symm, hh.out.1⟩
      · cases f2 : inR (pt l k).2 0 1000
        · have F := hid (goodCurve_bad (by rw [HL.out]; exact hlt) (okAt_2 f2))
          go_wp2_with fail
          refine (s_l7Value _ _).mono ?_
          rintro e _ ⟨rfl, rfl⟩
          go_wp2_with fail
          refine (s_l7Value _ _).mono ?_
          rintro e _ ⟨rfl, rfl⟩
          go_wp2
          go_ret
          exact ⟨ret_bool F.out.symm, hh.out.1⟩
        · by_cases hk0 : k = 0
          · subst hk0
            simp only [Nat.zero_mul, Nat.add_zero] at x0 x1
            by_cases f0 : (pt l 0).1 = 0
            · have f0' : ((pt l 0).1 != 0) = false := by simp [f0]
              have F0 := hid f0
              clear f0
              have F := hid (okAt_5 f1 f2 (Or.inl rfl))
              go_wp2_with fail
              refine (s_l7Value _ _).mono ?_
              rintro e _ ⟨rfl, rfl⟩
              go_wp2_with fail
              refine (s_l7Value _ _).mono ?_
              rintro e _ ⟨rfl, rfl⟩
              go_wp2
              go_quiet (fail)
              go_wp2
              go_roundg (n - (0 + 1))
              case measure => omega
              case rel => exact ⟨0 + 1, by omega, rfl, by go_num, below_drewN hh.out.1 _, all_next hh.out.2.1 F.out, fun _ => F0.out⟩
            · have f0' : ((pt l 0).1 != 0) = true := by simp [f0]
              have F := hid (goodCurve_first f0)
              go_wp2_with fail
              refine (s_l7Value _ _).mono ?_
              rintro e _ ⟨rfl, rfl⟩
              go_wp2_with fail
              refine (s_l7Value _ _).mono ?_
              rintro e _ ⟨rfl, rfl⟩
              go_wp2
              go_ret
              exact ⟨ret_bool F.out.symm, hh.out.1⟩
          · have hk1 : 0 < k := by omega
            have hk2 : k - 1 < n := by omega
            obtain ⟨b2, off2, e2, _, y0, y1⟩ := PAt.get (H.out.below hh.out.1) (k - 1) (by omega)
            cases e2
            have hw : IntKind.i64.wrap ((k : Int) - 1) = ((k - 1 : Nat) : Int) := (IntWalk.i64_in _ (by omega)).trans (by omega)
            by_cases f3 : (pt l k).1 ≤ (pt l (k - 1)).1
            · have F := hid (goodCurve_bad (by rw [HL.out]; exact hlt) (okAt_3 hk0 f3))
              go_wp2_with fail
              refine (s_l7Value _ _).mono ?_
              rintro e _ ⟨rfl, rfl⟩
              go_wp2_with fail
              refine (s_l7Value _ _).mono ?_
              rintro e _ ⟨rfl, rfl⟩
              go_wp2
              go_quiet (fail)
              go_wp2
              go_ret
              exact ⟨ret_bool F.out.symm, below_drewN hh.out.1 _⟩
            · have f3' : (pt l (k - 1)).1 < (pt l k).1 := by omega
              by_cases f4 : (pt l (k - 1)).2 ≤ (pt l k).2
              · have F := hid (goodCurve_bad (by rw [HL.out]; exact hlt) (okAt_4 hk0 f4))
                go_wp2_with fail
                refine (s_l7Value _ _).mono ?_
                rintro e _ ⟨rfl, rfl⟩
                go_wp2_with fail
                refine (s_l7Value _ _).mono ?_
                rintro e _ ⟨rfl, rfl⟩
                go_wp2
                go_quiet (fail)
                go_wp2
                go_ret
                exact ⟨ret_bool F.out.symm, below_drewN hh.out.1 _⟩
              · have f4' : (pt l k).2 < (pt l (k - 1)).2 := by omega
                have F := hid (okAt_5 f1 f2 (Or.inr ⟨f3', f4'⟩))
                go_wp2_with fail
                refine (s_l7Value _ _).mono ?_
                rintro e _ ⟨rfl, rfl⟩
                go_wp2_with fail
                refine (s_l7Value _ _).mono ?_
                rintro e _ ⟨rfl, rfl⟩
                go_wp2
                go_quiet (fail)
                go_wp2
                go_roundg (n - (k + 1))
                case measure => omega
                case rel => exact ⟨k + 1, by omega, rfl, by go_num, below_drewN hh.out.1 _, all_next hh.out.2.1 F.out, fun _ => hh.out.2.2 hk1⟩
    · obtain rfl : k = n := by omega
      cases h1 : inR (k : Int) 2 6
      · have F := hid (goodCurve_len (l := l) (by rw [HL.out]; exact h1))
        go_wp2_with fail
        refine (s_l1In _ _ _ _).mono ?_
        rintro e _ ⟨rfl, rfl⟩
        go_wp2
        go_ret
        exact ⟨ret_bool F.out.symm, hh.out.1⟩
      · have hn2 := inR_iff.1 h1
        have F := hid (goodCurve_all (l := l) (by rw [HL.out]; exact h1) (hh.out.2.2 (by omega)) (by rw [HL.out]; exact hh.out.2.1))
        have H1 := hid h1
        clear h1
        go_wp2_with fail
        refine (s_l1In _ _ _ _).mono ?_
        rintro e _ ⟨rfl, rfl⟩
        go_wp2
        go_ret
        exact ⟨ret_bool (H1.out.trans F.out.symm), hh.out.1⟩

theorem s_IsValidCurve (a : Option Addr) (n c : Nat) (l : List Pt) (w : World) (h : PAt w a n l) (hn : n ≤ 1048576) :
    Calls Try.prog 16 #[.slice a n c] w fun e w' => e = .returned (.bool (goodCurve l)) ∧ Below w.heap.size w w' := by
  go_enter Try.func16, Try.ntmps16
  go_wp2_with fail
  refine (s_l7Good a n c l w h hn).mono ?_
  rintro e w1 ⟨rfl, hb⟩
  go_wp2
  go_ret
  exact ⟨rfl, hb⟩

end Go.Proofs.Ytpcbeapajlchgaa

/-
  What the laws do with CurvePoints: they build them anew and compare them, mark them and look at the marks.
-/
set_option linter.unusedVariables false
set_option linter.unusedSimpArgs false
namespace Go.Proofs.Ytpcbeapajlchgaa
open Go.RowKit

theorem l_toCurvePoint (x0 x1 : Int) (w : World) : Calls Try.prog 54 #[.agg #[.int .i64 x0, .int .i64 x1]] w fun e w' => e = .returned (.agg #[.int .i64 x0, .int .i64 x1]) ∧ Below w.heap.size w w' := by
  go_enter Try.func54, Try.ntmps54
  go_wp2
  go_returns
  exact ⟨rfl, by go_grown⟩

theorem l_eqCurvePoint (x0 x1 : Int) (w : World) : Calls Try.prog 57 #[.agg #[.int .i64 x0, .int .i64 x1], .agg #[.int .i64 x0, .int .i64 x1]] w fun e w' => e = .returned (.bool true) ∧ Below w.heap.size w w' := by
  go_enter Try.func57, Try.ntmps57
  go_wp2
  go_ret
  exact ⟨rfl, by go_grown⟩

theorem Try.infoCurvePoint : (Try.prog.info? 52).map (fun i => (i.zero, i.size, i.bytes)) = some (some (.agg #[.int .i64 0, .int .i64 0]), 2, 16) := by kernel_rfl

theorem OwnP.len {w : World} {B : Nat} {a : Option Addr} {n c : Nat} {l : List Pt} (h : OwnP w B (.slice a n c) l) : l.length = n := OwnS.len h
theorem OwnP.cells {w : World} {B g k n c : Nat} {l : List Pt} (h : OwnP w B (.slice (some ⟨g, 0, none⟩) n c) l) (hk : k < n) :
    w.cell? ⟨g, k * 2, none⟩ = some (.int .i64 ((l[k]?.getD default).1)) ∧ w.cell? ⟨g, k * 2 + 1, none⟩ = some (.int .i64 ((l[k]?.getD default).2)) := by
  obtain ⟨b, off, h1, h2, h3⟩ := (OwnS.at pf_len h).2 k hk
  simp only [Option.some.injEq, Addr.mk.injEq] at h1
  obtain ⟨rfl, rfl, -⟩ := h1
  simp only [Nat.zero_add] at h3
  exact ⟨h3 0 (by decide), h3 1 (by decide)⟩
theorem OwnP.frozen {w : World} {B g k n c : Nat} {l : List Pt} (h : OwnP w B (.slice (some ⟨g, 0, none⟩) n c) l) :
    w.frozen? ⟨g, k * 2, none⟩ = false ∧ w.frozen? ⟨g, k * 2 + 1, none⟩ = false := ⟨OwnS.frozen h, OwnS.frozen h⟩

theorem l_toCurvePointS (a : Option Addr) (n c : Nat) (l : List Pt) (w : World) (h : PAt w a n l) (hn : n ≤ 1048576) :
    Calls Try.prog 17 #[.slice a n c] w fun e w' => ∃ a' c', e = .returned (.slice a' n c') ∧ OwnP w' w.heap.size (.slice a' n c') l ∧ Below w.heap.size w w' := by
  obtain ⟨i0, hi, hz0, hz1, hz2⟩ := info_parts Try.infoCurvePoint
  have H := hid h
  clear h
  have HI := hid hi
  have HZ := hid hz0
  have HZ1 := hid hz1
  have HZ2 := hid hz2
  clear hi hz0 hz1 hz2
  go_enter Try.func17, Try.ntmps17
  go_wp2_with (at_make; refine wpList_make_full _ rfl _ _ 25 rfl w.heap.size 52 i0 (.agg #[.int .i64 0, .int .i64 0]) 2 Try.underlying25 HI.out HZ.out HZ1.out _ _ _ _ n rfl rfl rfl rfl ?b2 ?b3 ?b4 ?_)
  case b2 => rw [HZ2.out]; omega
  case b3 => unfold maxLen; omega
  case b4 => exact Nat.le_refl _
  intro w1 hown hgrow
  have ho : OwnP w1 w.heap.size _ (List.replicate n ((0, 0) : Pt)) := OwnS.of_row pf_len (by decide) (n := n) (by rw [← madeFlat pf 2 pf_len (by decide) ((0, 0) : Pt) _ rfl n]; exact hown)
  have HO := hid ho
  have HB := hid (below_of_grown hgrow (Nat.le_refl _) (fun k hk => by simp at hk))
  clear hown ho hgrow
  go_wp2
  go_loopw [4] (fun i wr => ∃ (k : Nat) (l' : List Pt), k ≤ n ∧ i = .int .i64 k ∧ Hid (OwnP wr w.heap.size (.slice (some ⟨w.heap.size, 0, none⟩) n n) l' ∧ l'.take k = l.take k ∧ Below w.heap.size w wr)) (fun i _ => n - (intOf i).toNat)
  case atStart => exact ⟨0, List.replicate n (0, 0), Nat.zero_le _, rfl, HO.out, by simp, HB.out⟩
  case round =>
    obtain ⟨k, l', hk, rfl, hh⟩ := hrel
    clear HO HB
    by_cases hlt : k < n
    · obtain ⟨b, off, rfl, hbw, x0, x1⟩ := PAt.get (H.out.below hh.out.2.2) k hlt
      obtain ⟨y0, y1⟩ := hh.out.1.cells (k := k) hlt
      obtain ⟨f0, f1⟩ := hh.out.1.frozen (k := k)
      go_wp2_with fail
      refine (l_toCurvePoint _ _ _).mono ?_
      rintro e w2 ⟨rfl, hb⟩
      obtain ⟨hc, hf⟩ := bcell hb
      have hw1 : w.heap.size < wr.heap.size := (hh.out.1.lt _ rfl).2
      go_wp2
      go_roundw
      case rel =>
        obtain ⟨o1, g1⟩ := OwnS.setAll pf_len (by decide) (hh.out.1.below hb) hlt (l[k]?.getD default)
        exact ⟨k + 1, l'.set k (l[k]?.getD default), by omega, by go_num, o1, take_setS H.out.1 hh.out.1.len hlt hh.out.2.1, (bstep hh.out.2.2 hb).grown g1 (by have := hb.size; omega) (fun q hq => by simp at hq; omega)⟩
      case measure => simp [intOf]; omega
    · go_wp2
      go_ret
      have hl := hh.out.1.len
      have hl2 := H.out.1
      have e := hh.out.2.1
      rw [List.take_of_length_le (by omega), List.take_of_length_le (by omega)] at e
      subst e
      exact ⟨_, _, rfl, hh.out.1, hh.out.2.2⟩

theorem l_szCurvePointS_yes (a : Option Addr) (n c : Nat) (w : World) (hn : n ≤ 1048576) : Calls Try.prog 15 #[.slice a n c, .int .i64 1048576] w fun e w' => e = .returned (.int .i64 (1048576 - (n : Int))) ∧ w = w' := by
  go_enter Try.func15, Try.ntmps15
  go_wp2
  go_ret
  exact ⟨rfl, rfl⟩
theorem l_szCurvePointS_no (a : Option Addr) (n c : Nat) (w : World) (hn : 1048576 < n) (hn2 : n ≤ 9223372036854775807) : Calls Try.prog 15 #[.slice a n c, .int .i64 1048576] w fun e w' => e = .returned (.int .i64 (-1)) ∧ w = w' := by
  go_enter Try.func15, Try.ntmps15
  go_wp2
  go_ret
  exact ⟨rfl, rfl⟩

theorem l_eqCurvePointS (a b : Option Addr) (n c d : Nat) (l : List Pt) (w : World) (h : PAt w a n l) (h' : PAt w b n l) (hn : n ≤ 1048576) :
    Calls Try.prog 19 #[.slice a n c, .slice b n d] w fun e w' => e = .returned (.bool true) ∧ Below w.heap.size w w' := by
  have H := hid h
  have H' := hid h'
  clear h h'
  go_enter Try.func19, Try.ntmps19
  go_wp2
  go_loopg [5] n (fun g i wr => ∃ k : Nat, k ≤ n ∧ g = n - k ∧ i = .int .i64 k ∧ Hid (Below w.heap.size w wr))
  case atStart => exact ⟨0, Nat.zero_le _, rfl, rfl, Below.refl _ _⟩
  case round =>
    obtain ⟨k, hk, rfl, rfl, hh⟩ := hrel
    by_cases hlt : k < n
    · obtain ⟨b1, off1, rfl, hb1, x0, x1⟩ := PAt.get (H.out.below hh.out) k hlt
      obtain ⟨b2, off2, rfl, hb2, y0, y1⟩ := PAt.get (H'.out.below hh.out) k hlt
      go_upto_region 6 with fail
      have q0 : ∀ wy w5 : World, Below wy.heap.size wy w5 → (wy.cell? ⟨b1, off1 + k * 2, none⟩ = some (.int .i64 (pt l k).1) ∧ wy.cell? ⟨b1, off1 + k * 2 + 1, none⟩ = some (.int .i64 (pt l k).2) ∧ wy.cell? ⟨b2, off2 + k * 2, none⟩ = some (.int .i64 (pt l k).1) ∧ wy.cell? ⟨b2, off2 + k * 2 + 1, none⟩ = some (.int .i64 (pt l k).2)) → (w5.cell? ⟨b1, off1 + k * 2, none⟩ = some (.int .i64 (pt l k).1) ∧ w5.cell? ⟨b1, off1 + k * 2 + 1, none⟩ = some (.int .i64 (pt l k).2) ∧ w5.cell? ⟨b2, off2 + k * 2, none⟩ = some (.int .i64 (pt l k).1) ∧ w5.cell? ⟨b2, off2 + k * 2 + 1, none⟩ = some (.int .i64 (pt l k).2)) :=
        fun wy w5 hb ⟨z0, z1, z2, z3⟩ => ⟨(hb.cell (World.block_lt_of_cell? wy _ z0)).trans z0, (hb.cell (World.block_lt_of_cell? wy _ z1)).trans z1, (hb.cell (World.block_lt_of_cell? wy _ z2)).trans z2, (hb.cell (World.block_lt_of_cell? wy _ z3)).trans z3⟩
      have Q0 := hid q0
      clear q0
      go_cut [26] (fun s26 wx => s26 = .bool false ∧ Hid (Below wr.heap.size wr wx))
      case first =>
        go_region_held3 (fun w' => (w'.cell? ⟨b1, off1 + k * 2, none⟩ = some (.int .i64 (pt l k).1) ∧ w'.cell? ⟨b1, off1 + k * 2 + 1, none⟩ = some (.int .i64 (pt l k).2) ∧ w'.cell? ⟨b2, off2 + k * 2, none⟩ = some (.int .i64 (pt l k).1) ∧ w'.cell? ⟨b2, off2 + k * 2 + 1, none⟩ = some (.int .i64 (pt l k).2))) (first | go_keep | exact Q0.out _ _ (by assumption) (by first | assumption | (refine ⟨?_, ?_, ?_, ?_⟩ <;> assumption) | simp [*]))
          (first | (go_at_call 57; refine (l_eqCurvePoint _ _ _).mono ?_; rintro e w5 ⟨rfl, hb5⟩; obtain ⟨hc5, hf5⟩ := bcell hb5))
        all_goals (go_wp2_with fail; go_meet)
        all_goals refine ⟨rfl, ?_⟩
        all_goals exact bstep ((Below.refl _ _).drew : Below wr.heap.size wr _) (by assumption)
      case rest =>
        obtain ⟨rfl, hx⟩ := hcut
        clear Q0
        go_wp2
        go_roundg (n - (k + 1))
        case measure => omega
        case rel => exact ⟨k + 1, by omega, rfl, by go_num, bstep hh.out hx.out⟩
    · obtain rfl : k = n := by omega
      go_wp2
      go_ret
      exact ⟨rfl, hh.out⟩

/-- The marked list. -/
def markedCurvePoint (k0 : Int) (n : Nat) : List Pt := (List.range n).map (fun i : Nat => ((k0 + 2 * (i : Int), k0 + 2 * (i : Int) + 1) : Pt))
theorem markedCurvePoint_len (k0 : Int) (n : Nat) : (markedCurvePoint k0 n).length = n := by simp [markedCurvePoint]
theorem markedCurvePoint_get (k0 : Int) (n i : Nat) (h : i < n) : (markedCurvePoint k0 n)[i]?.getD default = ((k0 + 2 * (i : Int), k0 + 2 * (i : Int) + 1) : Pt) := by simp [markedCurvePoint, h]

theorem l_heldCurvePointS (a : Option Addr) (n c : Nat) (k0 : Int) (w : World) (h : PAt w a n (markedCurvePoint k0 n)) (hn : n ≤ 1048576) (hk : 0 ≤ k0 ∧ k0 ≤ 1000000000000) :
    Calls Try.prog 23 #[.slice a n c, .int .i64 k0] w fun e w' => e = .returned (.int .i64 (k0 + 2 * (n : Int))) ∧ w = w' := by
  have H := hid h
  clear h
  go_enter Try.func23, Try.ntmps23
  go_wp2
  go_loop [1, 5] (fun s i => ∃ k : Nat, k ≤ n ∧ i = .int .i64 k ∧ s = .int .i64 (k0 + 2 * (k : Int))) (fun _ i => n - (intOf i).toNat)
  case atStart => exact ⟨0, Nat.zero_le _, rfl, by simp⟩
  case round =>
    obtain ⟨k, hkn, rfl, rfl⟩ := hrel
    by_cases hlt : k < n
    · obtain ⟨b1, off1, rfl, hb1, hx⟩ := H.out.2 k hlt
      have x0 := hx 0 (by decide)
      have x1 := hx 1 (by decide)
      rw [markedCurvePoint_get k0 n k hlt] at x0 x1
      simp only [pf, List.getElem?_cons_zero, List.getElem?_cons_succ, Nat.add_zero] at x0 x1
      clear hx
      go_wp2
      go_round
      case rel => exact ⟨k + 1, by omega, by go_num, by congr 1; omega⟩
      case measure => simp [intOf]; omega
    · go_wp2
      go_ret
      exact ⟨ret_int (by omega), rfl⟩

theorem l_markCurvePointS (a : Option Addr) (n c B : Nat) (l : List Pt) (k0 : Int) (w : World) (h : OwnP w B (.slice a n c) l) (hn : n ≤ 1048576) (hk : 0 ≤ k0 ∧ k0 ≤ 1000000000000) :
    Calls Try.prog 22 #[.slice a n c, .int .i64 k0] w fun e w' => e = .returned (.int .i64 (k0 + 2 * (n : Int))) ∧ OwnP w' B (.slice a n c) (markedCurvePoint k0 n) ∧ w.grownBy w' (Value.ownBlock (.slice a n c)) := by
  have h0 := h
  unfold OwnP OwnS at h
  rcases h.2 with ⟨h1, h0'⟩ | ⟨g, cap, cur, h1, hB, hg, hnc, hm, hs, ht⟩
  · simp only [Value.slice.injEq] at h1
    obtain ⟨rfl, rfl, rfl⟩ := h1
    clear h h0 h0'
    go_enter Try.func22, Try.ntmps22
    go_wp2
    refine wp_loop_rounds 1 ?_
    rw [rounds_succ]
    go_wp2
    go_ret
    exact ⟨ret_int (by simp), OwnS.nil _ _, World.grownBy.refl _ _⟩
  · simp only [Value.slice.injEq] at h1
    obtain ⟨rfl, -, rfl⟩ := h1
    clear hg hs ht hm hnc hB h
    have H := hid h0
    have HN := hid (OwnS.len h0)
    clear h0
    go_enter Try.func22, Try.ntmps22
    go_wp2
    go_loopw [1, 5] (fun s i wr => ∃ (k : Nat) (l' : List Pt), k ≤ n ∧ i = .int .i64 k ∧ s = .int .i64 (k0 + 2 * (k : Int)) ∧ Hid (OwnP wr B (.slice (some ⟨g, 0, none⟩) n c) l' ∧ l'.take k = (markedCurvePoint k0 n).take k ∧ w.grownBy wr (some g))) (fun _ i _ => n - (intOf i).toNat)
    case atStart => exact ⟨0, l, Nat.zero_le _, rfl, by simp, H.out, by simp, World.grownBy.refl _ _⟩
    case round =>
      obtain ⟨k, l', hkn, rfl, rfl, hh⟩ := hrel
      by_cases hlt : k < n
      · obtain ⟨y0, y1⟩ := hh.out.1.cells (k := k) hlt
        obtain ⟨f0, f1⟩ := hh.out.1.frozen (k := k)
        go_wp2
        go_roundw
        case rel =>
          obtain ⟨o1, g1⟩ := OwnS.setAll pf_len (by decide) hh.out.1 hlt ((k0 + 2 * (k : Int), k0 + 2 * (k : Int) + 1) : Pt)
          exact ⟨k + 1, _, by omega, by go_num, by congr 1; omega, o1, by rw [← markedCurvePoint_get k0 n k hlt]; exact take_setS (markedCurvePoint_len _ _) hh.out.1.len hlt hh.out.2.1, grownBy_trans hh.out.2.2 g1⟩
        case measure => simp [intOf]; omega
      · go_wp2
        go_ret
        obtain rfl : k = n := by omega
        refine ⟨ret_int (by omega), ?_, hh.out.2.2⟩
        have e := hh.out.2.1
        rw [List.take_of_length_le (by have := hh.out.1.len; omega), List.take_of_length_le (by rw [markedCurvePoint_len]; omega)] at e
        subst e
        exact hh.out.1

end Go.Proofs.Ytpcbeapajlchgaa

/-
  A slice of one struct, new.
-/
set_option linter.unusedVariables false
namespace Go.Proofs.Ytpcbeapajlchgaa
open Go.RowKit

theorem SAt.one {α : Type} [Inhabited α] {f : α → List Value} {s : Nat} {e : TypeId} {w : World} {x : α} {g : Nat} {cs : Array Value} (hf : ∀ x, (f x).length = s) (hc : cs = (f x).toArray) (hg : g = w.heap.size) : SAt f s (w.alloc (.cells cs e)) (some ⟨g, 0, none⟩) 1 [x] := by
  subst hc hg
  exact SAt.single w x hf

end Go.Proofs.Ytpcbeapajlchgaa

/-
  Curves: a raised curve.
-/
set_option linter.unusedVariables false
set_option linter.unusedSimpArgs false
namespace Go.Proofs.Ytpcbeapajlchgaa
open Go.RowKit

def raised (l : List Pt) (h : Int) : List Pt := l.map fun p => (p.1, p.2 + h)
theorem raised_len (l : List Pt) (h : Int) : (raised l h).length = l.length := by simp [raised]
theorem raised_succ (l : List Pt) (h : Int) (k : Nat) (hk : k < l.length) : raised (l.take (k + 1)) h = raised (l.take k) h ++ [((pt l k).1, (pt l k).2 + h)] := by
  rw [takeS k hk, raised, List.map_append]
  rfl
/-- What RaiseCurve returns. -/
def raiseR (l : List Pt) (h : Int) : List Pt × Bool := if goodCurve l = true ∧ inR h (-1000) 1000 = true ∧ goodCurve (raised l h) = true then (raised l h, true) else ([], false)

theorem good_in {l : List Pt} (h : goodCurve l = true) (k : Nat) (hk : k < l.length) : (0 ≤ (pt l k).1 ∧ (pt l k).1 ≤ 1000) ∧ (0 ≤ (pt l k).2 ∧ (pt l k).2 ≤ 1000) := by
  simp only [goodCurve, Bool.and_eq_true, List.all_eq_true, List.mem_range] at h
  have := h.2 k hk
  simp only [okAt, Bool.and_eq_true] at this
  exact ⟨inR_iff.1 this.1.1, inR_iff.1 this.1.2⟩
theorem good_lens {l : List Pt} (h : goodCurve l = true) : 2 ≤ l.length ∧ l.length ≤ 6 := by
  simp only [goodCurve, Bool.and_eq_true] at h
  have := inR_iff.1 h.1.1
  omega

theorem raiseR_len {l R : List Pt} {h : Int} {b : Bool} (e : raiseR l h = (R, b)) : R.length ≤ 6 := by
  unfold raiseR at e
  split at e
  · rename_i hh
    cases e
    exact (good_lens hh.2.2).2
  · cases e
    exact Nat.zero_le _

theorem i_RaiseCurve_no (a : Option Addr) (n c : Nat) (hd : Int) (l : List Pt) (w : World) (h : PAt w a n l) (hn : n ≤ 1048576) (hv : (goodCurve l && inR hd (-1000) 1000) = false) :
    Calls Try.prog 21 #[.slice a n c, .int .i64 hd] w fun e w' => ∃ a' c', e = .returned (.tuple #[.slice a' 0 c', .bool false]) ∧ OwnP w' w.heap.size (.slice a' 0 c') [] ∧ Below w.heap.size w w' := by
  have H := hid h
  clear h
  cases h1 : goodCurve l
  · have HG := hid h1
    clear h1 hv
    go_enter Try.func21, Try.ntmps21
    go_wp2_with fail
    refine (i_IsValidCurve _ _ _ l _ (H.out.below (by go_grown)) (by omega)).mono ?_
    rintro e w1 ⟨rfl, hb1⟩
    rw [HG.out]
    go_wp2
    go_ret2
    first
      | exact ⟨_, _, rfl, OwnS.nil _ _, hb1⟩
      | exact ⟨_, _, rfl, (OwnS.lit0 w).below hb1, bstep ((Below.refl _ _).alloc (Nat.le_refl _) _) hb1⟩
  · have HG := hid h1
    have HR : Hid (inR hd (-1000) 1000 = false) := hid (by rw [h1] at hv; exact hv)
    clear h1 hv
    go_enter Try.func21, Try.ntmps21
    go_wp2_with fail
    refine (i_IsValidCurve _ _ _ l _ (H.out.below (by go_grown)) (by omega)).mono ?_
    rintro e w1 ⟨rfl, hb1⟩
    rw [HG.out]
    go_wp2_with fail
    refine (i_inside _ _ _ _).mono ?_
    rintro e _ ⟨rfl, rfl⟩
    rw [HR.out]
    go_wp2
    go_ret2
    first
      | exact ⟨_, _, rfl, OwnS.nil _ _, hb1⟩
      | exact ⟨_, _, rfl, (OwnS.lit0 w).below hb1, bstep ((Below.refl _ _).alloc (Nat.le_refl _) _) hb1⟩
theorem s_RaiseCurve_no (a : Option Addr) (n c : Nat) (hd : Int) (l : List Pt) (w : World) (h : PAt w a n l) (hn : n ≤ 1048576) (hv : (goodCurve l && inR hd (-1000) 1000) = false) :
    Calls Try.prog 20 #[.slice a n c, .int .i64 hd] w fun e w' => ∃ a' c', e = .returned (.tuple #[.slice a' 0 c', .bool false]) ∧ OwnP w' w.heap.size (.slice a' 0 c') [] ∧ Below w.heap.size w w' := by
  have H := hid h
  clear h
  cases h1 : goodCurve l
  · have HG := hid h1
    clear h1 hv
    go_enter Try.func20, Try.ntmps20
    go_wp2_with fail
    refine (s_l7Good _ _ _ l _ (H.out.below (by go_grown)) (by omega)).mono ?_
    rintro e w1 ⟨rfl, hb1⟩
    rw [HG.out]
    go_wp2
    go_ret2
    first
      | exact ⟨_, _, rfl, OwnS.nil _ _, hb1⟩
      | exact ⟨_, _, rfl, (OwnS.lit0 w).below hb1, bstep ((Below.refl _ _).alloc (Nat.le_refl _) _) hb1⟩
  · have HG := hid h1
    have HR : Hid (inR hd (-1000) 1000 = false) := hid (by rw [h1] at hv; exact hv)
    clear h1 hv
    go_enter Try.func20, Try.ntmps20
    go_wp2_with fail
    refine (s_l7Good _ _ _ l _ (H.out.below (by go_grown)) (by omega)).mono ?_
    rintro e w1 ⟨rfl, hb1⟩
    rw [HG.out]
    go_wp2_with fail
    refine (s_l1In _ _ _ _).mono ?_
    rintro e _ ⟨rfl, rfl⟩
    rw [HR.out]
    go_wp2
    go_ret2
    first
      | exact ⟨_, _, rfl, OwnS.nil _ _, hb1⟩
      | exact ⟨_, _, rfl, (OwnS.lit0 w).below hb1, bstep ((Below.refl _ _).alloc (Nat.le_refl _) _) hb1⟩

set_option maxHeartbeats 1000000 in
theorem i_RaiseCurve_yes (a : Option Addr) (n c : Nat) (hd : Int) (l : List Pt) (w : World) (h : PAt w a n l) (h1 : goodCurve l = true) (h2 : inR hd (-1000) 1000 = true) :
    Calls Try.prog 21 #[.slice a n c, .int .i64 hd] w fun e w' => ∃ a' c', e = .returned (.tuple #[.slice a' (raiseR l hd).1.length c', .bool (raiseR l hd).2]) ∧ OwnP w' w.heap.size (.slice a' (raiseR l hd).1.length c') (raiseR l hd).1 ∧ Below w.heap.size w w' := by
  obtain ⟨i0, hi, hz0, hz1, hz2⟩ := info_parts Try.infoCurvePoint
  have hnl : l.length = n := h.1
  have hn6 : 2 ≤ n ∧ n ≤ 6 := by have := good_lens h1; omega
  have hr := inR_iff.1 h2
  have H := hid h
  have HG := hid h1
  have HR := hid h2
  have HI := hid hi
  have HZ := hid hz0
  have HZ1 := hid hz1
  have HZ2 := hid hz2
  have HNL := hid hnl
  clear h h1 h2 hi hz0 hz1 hz2 hnl
  go_enter Try.func21, Try.ntmps21
  go_wp2_with fail
  refine (i_IsValidCurve _ _ _ l _ (H.out.below (by go_grown)) (by omega)).mono ?_
  rintro e w1 ⟨rfl, hb1⟩
  rw [HG.out]
  go_wp2_with fail
  refine (i_inside _ _ _ _).mono ?_
  rintro e _ ⟨rfl, rfl⟩
  rw [HR.out]
  have HB1 := hid hb1
  clear hb1
  go_wp2
  go_loopg [6, 20] n (fun g o i wr => ∃ (k : Nat) (a' : Option Addr) (c' : Nat), k ≤ n ∧ g = n - k ∧ i = .int .i64 k ∧ o = .slice a' k c' ∧ Hid (OwnP wr w.heap.size (.slice a' k c') (raised (l.take k) hd) ∧ Below w.heap.size w wr))
  case atStart => exact ⟨0, _, _, Nat.zero_le _, rfl, rfl, rfl, (OwnS.lit0 w1).mono HB1.out.size, bstep HB1.out ((Below.refl _ _).alloc (Nat.le_refl _) _)⟩
  case round =>
    obtain ⟨k, a', c', hk, rfl, rfl, rfl, hh⟩ := hrel
    by_cases hlt : k < n
    · obtain ⟨b0, off0, rfl, hbw, x0, x1⟩ := PAt.get (H.out.below hh.out.2) k hlt
      have hp := good_in HG.out k (by have := HNL.out; omega)
      have hl1 : (raised (l.take k) hd).length = k := by rw [raised_len, List.length_take]; have := HNL.out; omega
      have HL1 := hid hl1
      clear hl1
      have hz1 : b0 < wr.heap.size + 1 := by omega
      go_wp2_with (at_builtin; go_loud (refine wp_append_s _ rfl _ _ 25 rfl 52 i0 (.agg #[.int .i64 0, .int .i64 0]) 16 Try.underlying25 HI.out HZ.out HZ1.out HZ2.out rfl (by decide) pf_len pf_one w.heap.size _ (raised (l.take k) hd) rfl (hh.out.1.below (by go_grown)) _ 1 1 [((pt l k).1, (pt l k).2 + hd)] rfl (SAt.one pf_len rfl (by simp)) (k + 1) (by rw [HL1.out]) (by omega) (by decide) (by have := hh.out.2.size; simp; omega) ?_))
      intro a'' c'' w2 hown hgrow hblk
      have HO := hid (show OwnP w2 w.heap.size (.slice a'' (k + 1) c'') (raised (l.take (k + 1)) hd) by rw [raised_succ _ _ _ (by have := HNL.out; omega)]; exact hown)
      have HB := hid ((bstep hh.out.2 (by go_grown)).grown hgrow (by have := hh.out.2.size; simp; omega) (fun q hq => ((hh.out.1).lt q hq).1))
      clear hown hgrow hblk hh
      go_wp2
      go_roundg (n - (k + 1))
      case rel => exact ⟨k + 1, _, _, by omega, rfl, by go_num, rfl, HO.out, HB.out⟩
      case measure => omega
    · obtain rfl : k = n := by omega
      have hO := hid (show OwnP wr w.heap.size (.slice a' k c') (raised l hd) by have e := hh.out.1; rwa [List.take_of_length_le (by have := HNL.out; omega)] at e)
      have hB := hid hh.out.2
      clear hh
      go_wp2_with fail
      refine (i_IsValidCurve _ _ _ (raised l hd) _ (OwnS.at pf_len hO.out) (by omega)).mono ?_
      rintro e w2 ⟨rfl, hb2⟩
      cases h3 : goodCurve (raised l hd)
      · have E := hid (show raiseR l hd = ([], false) by simp [raiseR, h3])
        clear h3
        go_wp2
        go_ret2
        rw [E.out]
        exact ⟨_, _, rfl, OwnS.nil _ _, bstep hB.out hb2⟩
      · have E := hid (show raiseR l hd = (raised l hd, true) by have := HG.out; have := HR.out; simp [raiseR, *])
        clear h3
        go_wp2
        go_ret2
        rw [E.out]
        have e := (raised_len l hd).trans HNL.out
        simp only [e]
        exact ⟨_, _, rfl, hO.out.below hb2, bstep hB.out hb2⟩

set_option maxRecDepth 100000 in
set_option maxHeartbeats 1000000 in
theorem s_RaiseCurve_yes (a : Option Addr) (n c : Nat) (hd : Int) (l : List Pt) (w : World) (h : PAt w a n l) (h1 : goodCurve l = true) (h2 : inR hd (-1000) 1000 = true) :
    Calls Try.prog 20 #[.slice a n c, .int .i64 hd] w fun e w' => ∃ a' c', e = .returned (.tuple #[.slice a' (raiseR l hd).1.length c', .bool (raiseR l hd).2]) ∧ OwnP w' w.heap.size (.slice a' (raiseR l hd).1.length c') (raiseR l hd).1 ∧ Below w.heap.size w w' := by
  obtain ⟨i0, hi, hz0, hz1, hz2⟩ := info_parts Try.infoCurvePoint
  have hnl : l.length = n := h.1
  have hn6 : 2 ≤ n ∧ n ≤ 6 := by have := good_lens h1; omega
  have hr := inR_iff.1 h2
  have H := hid h
  have HG := hid h1
  have HR := hid h2
  have HI := hid hi
  have HZ := hid hz0
  have HZ1 := hid hz1
  have HZ2 := hid hz2
  have HNL := hid hnl
  clear h h1 h2 hi hz0 hz1 hz2 hnl
  go_enter Try.func20, Try.ntmps20
  go_wp2_with fail
  refine (s_l7Good _ _ _ l _ (H.out.below (by go_grown)) (by omega)).mono ?_
  rintro e w1 ⟨rfl, hb1⟩
  rw [HG.out]
  go_wp2_with fail
  refine (s_l1In _ _ _ _).mono ?_
  rintro e _ ⟨rfl, rfl⟩
  rw [HR.out]
  have HB1 := hid (bstep ((Below.refl _ _).alloc (Nat.le_refl _) _) hb1 : Below w.heap.size w w1)
  have HO1 := hid (show OwnP w1 w.heap.size _ [] from (OwnS.lit0 w).below hb1)
  clear hb1
  go_wp2
  go_loopg [6, 7] n (fun g o i wr => ∃ (k : Nat) (a' : Option Addr) (c' : Nat), k ≤ n ∧ g = n - k ∧ i = .int .i64 k ∧ o = .slice a' k c' ∧ Hid (OwnP wr w.heap.size (.slice a' k c') (raised (l.take k) hd) ∧ Below w.heap.size w wr))
  case atStart => exact ⟨0, _, _, Nat.zero_le _, rfl, rfl, rfl, HO1.out, HB1.out⟩
  case round =>
    obtain ⟨k, a', c', hk, rfl, rfl, rfl, hh⟩ := hrel
    by_cases hlt : k < n
    · obtain ⟨b0, off0, rfl, hbw0, -, -⟩ := PAt.get H.out k hlt
      obtain ⟨_, _, e1, hbw, x0, x1⟩ := PAt.get (H.out.below hh.out.2) k hlt
      cases e1
      have hp := good_in HG.out k (by have := HNL.out; omega)
      have hw : IntKind.i64.wrap ((pt l k).2 + hd) = (pt l k).2 + hd := IntWalk.i64_in _ (by omega)
      have AG := hid (show Value.ownBlock (.slice a' k c') ≠ some b0 from fun e => by have := (hh.out.1.lt _ e).1; omega)
      go_upto_region 7 with fail
      go_region_held3 (fun w' => w'.cell? ⟨b0, off0 + k * 2, none⟩ = some (.int .i64 (pt l k).1) ∧ w'.cell? ⟨b0, off0 + k * 2 + 1, none⟩ = some (.int .i64 (pt l k).2))
        (first | go_keep | (go_split_ands; refine ⟨?_, ?_⟩ <;> (rw [hgrow.cell_far _ (by simp; omega) (Ne.symm AG.out)]; assumption)))
        ((refine step_append_lies _ (by rfl) _ _ _ (by rfl) w.heap.size 52 i0 _ 2 16 Try.underlying25 HI.out HZ.out HZ1.out HZ2.out rfl (by omega) _ k _ (by rfl) (((OwnS.row hh.out.1).alloc _).drew) ⟨wr.heap.size, 0, none⟩ 1 1 [.int .i64 (pt l k).1, .int .i64 ((pt l k).2 + hd)] (by rfl) (by rfl) (World.news_of_block (cs := #[.int .i64 (pt l k).1, .int .i64 ((pt l k).2 + hd)]) (t := 52) (fr := (0, 0)) (heap_alloc_new wr _)) (by simp [Value.oneCell']) (by omega) (by unfold maxLen; omega) (by omega) (by have := hh.out.2.size; simp; omega) (wr.heap.size + 1) (by simp) ?_; intro gg cap w2 hown hgrow hblk hlt2))
      have HO := hid (show OwnP w2 w.heap.size (.slice (some ⟨gg, 0, none⟩) (k + 1) cap) (raised (l.take (k + 1)) hd) from OwnS.of_row pf_len (by decide) (n := k + 1) (by rw [raised_succ _ _ _ (by have := HNL.out; omega), List.flatMap_append]; exact hown))
      have HB := hid ((bstep hh.out.2 (by go_grown)).grown hgrow (by have := hh.out.2.size; simp; omega) (fun q hq => ((hh.out.1).lt q hq).1))
      clear hown hgrow hblk hh
      go_wp2
      go_roundg (n - (k + 1))
      case rel => exact ⟨k + 1, _, _, by omega, rfl, by go_num, rfl, HO.out, HB.out⟩
      case measure => omega
    · obtain rfl : k = n := by omega
      have hO := hid (show OwnP wr w.heap.size (.slice a' k c') (raised l hd) by have e := hh.out.1; rwa [List.take_of_length_le (by have := HNL.out; omega)] at e)
      have hB := hid hh.out.2
      clear hh
      go_wp2_with fail
      refine (s_l7Good _ _ _ (raised l hd) _ (OwnS.at pf_len hO.out) (by omega)).mono ?_
      rintro e w2 ⟨rfl, hb2⟩
      cases h3 : goodCurve (raised l hd)
      · have E := hid (show raiseR l hd = ([], false) by simp [raiseR, h3])
        clear h3
        go_wp2
        go_ret2
        rw [E.out]
        exact ⟨_, _, rfl, (OwnS.lit0 w2).mono (bstep hB.out hb2).size, bstep (bstep hB.out hb2) ((Below.refl _ _).alloc (Nat.le_refl _) _)⟩
      · have E := hid (show raiseR l hd = (raised l hd, true) by have := HG.out; have := HR.out; simp [raiseR, *])
        clear h3
        go_wp2
        go_ret2
        rw [E.out]
        have e := (raised_len l hd).trans HNL.out
        simp only [e]
        exact ⟨_, _, rfl, hO.out.below hb2, bstep hB.out hb2⟩

theorem i_RaiseCurve (a : Option Addr) (n c : Nat) (hd : Int) (l : List Pt) (w : World) (h : PAt w a n l) (hn : n ≤ 1048576) (R : List Pt) (b : Bool) (hR : raiseR l hd = (R, b)) :
    Calls Try.prog 21 #[.slice a n c, .int .i64 hd] w fun e w' => ∃ a' c', e = .returned (.tuple #[.slice a' R.length c', .bool b]) ∧ OwnP w' w.heap.size (.slice a' R.length c') R ∧ Below w.heap.size w w' := by
  by_cases hv : (goodCurve l && inR hd (-1000) 1000) = true
  · obtain ⟨h1, h2⟩ := (Bool.and_eq_true _ _).mp hv
    have := i_RaiseCurve_yes a n c hd l w h h1 h2
    rw [hR] at this
    exact this
  · have hv' : (goodCurve l && inR hd (-1000) 1000) = false := by simpa using hv
    have e : raiseR l hd = ([], false) := by
      unfold raiseR
      rw [if_neg]
      rintro ⟨x, y, -⟩
      rw [x, y] at hv'
      cases hv'
    rw [e] at hR
    cases hR
    exact i_RaiseCurve_no a n c hd l w h hn hv'
theorem s_RaiseCurve (a : Option Addr) (n c : Nat) (hd : Int) (l : List Pt) (w : World) (h : PAt w a n l) (hn : n ≤ 1048576) (R : List Pt) (b : Bool) (hR : raiseR l hd = (R, b)) :
    Calls Try.prog 20 #[.slice a n c, .int .i64 hd] w fun e w' => ∃ a' c', e = .returned (.tuple #[.slice a' R.length c', .bool b]) ∧ OwnP w' w.heap.size (.slice a' R.length c') R ∧ Below w.heap.size w w' := by
  by_cases hv : (goodCurve l && inR hd (-1000) 1000) = true
  · obtain ⟨h1, h2⟩ := (Bool.and_eq_true _ _).mp hv
    have := s_RaiseCurve_yes a n c hd l w h h1 h2
    rw [hR] at this
    exact this
  · have hv' : (goodCurve l && inR hd (-1000) 1000) = false := by simpa using hv
    have e : raiseR l hd = ([], false) := by
      unfold raiseR
      rw [if_neg]
      rintro ⟨x, y, -⟩
      rw [x, y] at hv'
      cases hv'
    rw [e] at hR
    cases hR
    exact s_RaiseCurve_no a n c hd l w h hn hv'

end Go.Proofs.Ytpcbeapajlchgaa

