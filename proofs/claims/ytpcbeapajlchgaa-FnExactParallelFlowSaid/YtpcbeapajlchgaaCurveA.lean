/-
  Curves: which are valid.
-/
import Derived.Test.YtpcbeapajlchgaaSRows
import Derived.Test.YtpcbeapajlchgaaRange
set_option linter.unusedVariables false
set_option linter.unusedSimpArgs false
namespace Go.Proofs.Ytpcbeapajlchgaa
open Go.RowKit

abbrev Pt := Int × Int
/-- A point's cells. -/
def pf (p : Pt) : List Value := [.int .i64 p.1, .int .i64 p.2]
theorem pf_len (p : Pt) : (pf p).length = 2 := rfl
theorem pf_one (p : Pt) : ∀ u ∈ pf p, u.oneCell' = true := by intro u hu; simp [pf] at hu; rcases hu with rfl | rfl <;> rfl
abbrev PAt (w : World) (a : Option Addr) (n : Nat) (l : List Pt) : Prop := SAt pf 2 w a n l
abbrev OwnP (w : World) (B : Nat) (v : Value) (l : List Pt) : Prop := OwnS pf 2 52 w B v l
/-- Point k of a curve. -/
def pt (l : List Pt) (k : Nat) : Pt := l[k]?.getD (0, 0)

theorem PAt.get {w : World} {a : Option Addr} {n : Nat} {l : List Pt} (h : PAt w a n l) (k : Nat) (hk : k < n) :
    ∃ b off, a = some ⟨b, off, none⟩ ∧ b < w.heap.size ∧ w.cell? ⟨b, off + k * 2, none⟩ = some (.int .i64 (pt l k).1) ∧ w.cell? ⟨b, off + k * 2 + 1, none⟩ = some (.int .i64 (pt l k).2) :=
  let ⟨b, off, h1, h2, h3⟩ := h.2 k hk
  ⟨b, off, h1, h2, h3 0 (by decide), h3 1 (by decide)⟩

theorem i_isCurveValue (n : Int) (w : World) : Calls Try.prog 56 #[.int .i64 n] w fun e w' => e = .returned (.bool (inR n 0 1000)) ∧ w = w' := by
  go_enter Try.func56, Try.ntmps56
  go_wp2_with fail
  refine (i_inside _ _ _ _).mono ?_
  rintro e w' ⟨rfl, rfl⟩
  go_wp2
  go_ret
  exact ⟨rfl, rfl⟩
theorem s_l7Value (n : Int) (w : World) : Calls Try.prog 74 #[.int .i64 n] w fun e w' => e = .returned (.bool (inR n 0 1000)) ∧ w = w' := by
  go_enter Try.func74, Try.ntmps74
  go_wp2_with fail
  refine (s_l1In _ _ _ _).mono ?_
  rintro e w' ⟨rfl, rfl⟩
  go_wp2
  go_ret
  exact ⟨rfl, rfl⟩

def okAt (l : List Pt) (k : Nat) : Bool := inR (pt l k).1 0 1000 && inR (pt l k).2 0 1000 && (decide (k = 0) || (decide ((pt l (k - 1)).1 < (pt l k).1) && decide ((pt l k).2 < (pt l (k - 1)).2)))
def goodCurve (l : List Pt) : Bool := inR l.length 2 6 && decide ((pt l 0).1 = 0) && (List.range l.length).all (okAt l)

theorem goodCurve_bad {l : List Pt} {k : Nat} (hk : k < l.length) (h : okAt l k = false) : goodCurve l = false := by
  unfold goodCurve
  have : (List.range l.length).all (okAt l) = false := by
    rw [List.all_eq_false]
    exact ⟨k, List.mem_range.2 hk, by simp [h]⟩
  rw [this]; simp
theorem goodCurve_len {l : List Pt} (h : inR l.length 2 6 = false) : goodCurve l = false := by simp [goodCurve, h]
theorem goodCurve_first {l : List Pt} (h : (pt l 0).1 ≠ 0) : goodCurve l = false := by simp [goodCurve, h]
theorem goodCurve_all {l : List Pt} (h1 : inR l.length 2 6 = true) (h2 : (pt l 0).1 = 0) (h3 : ∀ k, k < l.length → okAt l k = true) : goodCurve l = true := by
  simp only [goodCurve, h1, h2, decide_true, Bool.and_self, Bool.true_and, List.all_eq_true, List.mem_range]
  exact h3

theorem okAt_1 {l : List Pt} {k : Nat} (h : inR (pt l k).1 0 1000 = false) : okAt l k = false := by simp [okAt, h]
theorem okAt_2 {l : List Pt} {k : Nat} (h : inR (pt l k).2 0 1000 = false) : okAt l k = false := by simp [okAt, h]
theorem okAt_3 {l : List Pt} {k : Nat} (h0 : k ≠ 0) (h : (pt l k).1 ≤ (pt l (k - 1)).1) : okAt l k = false := by
  have : ¬ (pt l (k - 1)).1 < (pt l k).1 := by omega
  simp [okAt, h0, this]
theorem okAt_4 {l : List Pt} {k : Nat} (h0 : k ≠ 0) (h : (pt l (k - 1)).2 ≤ (pt l k).2) : okAt l k = false := by
  have : ¬ (pt l k).2 < (pt l (k - 1)).2 := by omega
  simp [okAt, h0, this]
theorem okAt_5 {l : List Pt} {k : Nat} (h1 : inR (pt l k).1 0 1000 = true) (h2 : inR (pt l k).2 0 1000 = true) (h3 : k = 0 ∨ ((pt l (k - 1)).1 < (pt l k).1 ∧ (pt l k).2 < (pt l (k - 1)).2)) : okAt l k = true := by
  rcases h3 with h3 | ⟨h3, h4⟩
  · subst h3; simp [okAt, h1, h2]
  · simp [okAt, h1, h2, h3, h4]

theorem bwalk {w wr : World} (h : Below w.heap.size w wr) (o : Obj) (q : Nat) : Below w.heap.size w ((wr.alloc o).drewN q) := below_drewN (h.alloc h.size o) q
theorem all_next {p : Nat → Bool} {k : Nat} (h : ∀ j, j < k → p j = true) (hk : p k = true) : ∀ j, j < k + 1 → p j = true := fun j hj => by
  by_cases e : j = k
  · subst e; exact hk
  · exact h j (by omega)

set_option maxHeartbeats 2000000 in
theorem i_IsValidCurve (a : Option Addr) (n c : Nat) (l : List Pt) (w : World) (h : PAt w a n l) (hn : n ≤ 1048576) :
    Calls Try.prog 18 #[.slice a n c] w fun e w' => e = .returned (.bool (goodCurve l)) ∧ Below w.heap.size w w' := by
  have H := hid h
  have HL := hid h.1
  clear h
  cases h1 : inR (n : Int) 2 6
  · have F := hid (goodCurve_len (l := l) (by rw [HL.out]; exact h1))
    go_enter Try.func18, Try.ntmps18
    go_wp2_with fail
    refine (i_inside _ _ _ _).mono ?_
    rintro e _ ⟨rfl, rfl⟩
    go_wp2
    go_ret
    exact ⟨ret_bool F.out.symm, Below.refl _ _⟩
  · have hn2 := inR_iff.1 h1
    obtain ⟨b0, off0, rfl, hb0, c00, c01⟩ := PAt.get H.out 0 (by omega)
    simp only [Nat.zero_mul, Nat.add_zero] at c00 c01
    by_cases h2 : (pt l 0).1 = 0
    · have h2' : ((pt l 0).1 != 0) = false := by simp [h2]
      have H2 := hid h2
      have H1 := hid h1
      clear h2
      go_enter Try.func18, Try.ntmps18
      go_wp2_with fail
      refine (i_inside _ _ _ _).mono ?_
      rintro e _ ⟨rfl, rfl⟩
      go_wp2
      clear c00 c01 h2'
      go_loopg [18] n (fun g i wr => ∃ k : Nat, k ≤ n ∧ g = n - k ∧ i = .int .i64 k ∧ Hid (Below w.heap.size w wr ∧ ∀ j, j < k → okAt l j = true))
      case atStart => exact ⟨0, Nat.zero_le _, rfl, rfl, Below.refl _ _, fun j hj => absurd hj (by omega)⟩
      case round =>
        obtain ⟨k, hk, rfl, rfl, hh⟩ := hrel
        by_cases hlt : k < n
        · obtain ⟨b1, off1, e1, hbw, x0, x1⟩ := PAt.get (H.out.below hh.out.1) k hlt
          cases e1
          cases f1 : inR (pt l k).1 0 1000
          · have F := hid (goodCurve_bad (by rw [HL.out]; exact hlt) (okAt_1 f1))
            go_upto_region 6 with fail
            go_quiet (first | (go_at_call 56; exact quiet_eq (i_isCurveValue _ _)))
            go_wp2
            go_ret
            exact ⟨ret_bool F.out.symm, bwalk hh.out.1 _ _⟩
          · cases f2 : inR (pt l k).2 0 1000
            · have F := hid (goodCurve_bad (by rw [HL.out]; exact hlt) (okAt_2 f2))
              go_upto_region 6 with fail
              go_quiet (first | (go_at_call 56; exact quiet_eq (i_isCurveValue _ _)))
              go_wp2
              go_ret
              exact ⟨ret_bool F.out.symm, bwalk hh.out.1 _ _⟩
            · by_cases hk0 : k = 0
              · have hk1 : ¬ (0 < k) := by omega
                have Hk := hid hk0
                clear hk0
                have F := hid (okAt_5 f1 f2 (Or.inl Hk.out))
                go_upto_region 6 with fail
                go_quiet (first | (go_at_call 56; exact quiet_eq (i_isCurveValue _ _)))
                go_wp2
                go_roundg (n - (k + 1))
                case measure => omega
                case rel => exact ⟨k + 1, by omega, rfl, by go_num, bwalk hh.out.1 _ _, all_next hh.out.2 F.out⟩
              · have hk1 : 0 < k := by omega
                obtain ⟨b2, off2, e2, _, y0, y1⟩ := PAt.get (H.out.below hh.out.1) (k - 1) (by omega)
                cases e2
                have hw : IntKind.i64.wrap ((k : Int) - 1) = ((k - 1 : Nat) : Int) := (IntWalk.i64_in _ (by omega)).trans (by omega)
                by_cases f3 : (pt l k).1 ≤ (pt l (k - 1)).1
                · have F := hid (goodCurve_bad (by rw [HL.out]; exact hlt) (okAt_3 hk0 f3))
                  go_upto_region 6 with fail
                  go_quiet (first | (go_at_call 56; exact quiet_eq (i_isCurveValue _ _)))
                  go_wp2
                  go_ret
                  exact ⟨ret_bool F.out.symm, bwalk hh.out.1 _ _⟩
                · have f3' : (pt l (k - 1)).1 < (pt l k).1 := by omega
                  by_cases f4 : (pt l (k - 1)).2 ≤ (pt l k).2
                  · have F := hid (goodCurve_bad (by rw [HL.out]; exact hlt) (okAt_4 hk0 f4))
                    go_upto_region 6 with fail
                    go_quiet (first | (go_at_call 56; exact quiet_eq (i_isCurveValue _ _)))
                    go_wp2
                    go_ret
                    exact ⟨ret_bool F.out.symm, bwalk hh.out.1 _ _⟩
                  · have f4' : (pt l k).2 < (pt l (k - 1)).2 := by omega
                    have F := hid (okAt_5 f1 f2 (Or.inr ⟨f3', f4'⟩))
                    go_upto_region 6 with fail
                    go_quiet (first | (go_at_call 56; exact quiet_eq (i_isCurveValue _ _)))
                    go_wp2
                    go_roundg (n - (k + 1))
                    case measure => omega
                    case rel => exact ⟨k + 1, by omega, rfl, by go_num, bwalk hh.out.1 _ _, all_next hh.out.2 F.out⟩
        · obtain rfl : k = n := by omega
          have F := hid (goodCurve_all (l := l) (by rw [HL.out]; exact H1.out) H2.out (by rw [HL.out]; exact hh.out.2))
          go_wp2
          go_ret
          exact ⟨ret_bool F.out.symm, hh.out.1⟩
    · have h2' : ((pt l 0).1 != 0) = true := by simp [h2]
      have F := hid (goodCurve_first h2)
      go_enter Try.func18, Try.ntmps18
      go_wp2_with fail
      refine (i_inside _ _ _ _).mono ?_
      rintro e _ ⟨rfl, rfl⟩
      go_wp2
      go_ret
      exact ⟨ret_bool F.out.symm, Below.refl _ _⟩


set_option maxHeartbeats 2000000 in
theorem s_l7Good (a : Option Addr) (n c : Nat) (l : List Pt) (w : World) (h : PAt w a n l) (hn : n ≤ 1048576) :
    Calls Try.prog 53 #[.slice a n c] w fun e w' => e = .returned (.bool (goodCurve l)) ∧ Below w.heap.size w w' := by
  have H := hid h
  have HL := hid h.1
  clear h
  go_enter Try.func53, Try.ntmps53
  go_wp2
  go_loopg [3] n (fun g i wr => ∃ k : Nat, k ≤ n ∧ g = n - k ∧ i = .int .i64 k ∧ Hid (Below w.heap.size w wr ∧ (∀ j, j < k → okAt l j = true) ∧ (0 < k → (pt l 0).1 = 0)))
  case atStart => exact ⟨0, Nat.zero_le _, rfl, rfl, Below.refl _ _, fun j hj => absurd hj (by omega), fun h => absurd h (by omega)⟩
  case round =>
    obtain ⟨k, hk, rfl, rfl, hh⟩ := hrel
    by_cases hlt : k < n
    · obtain ⟨b0, off0, rfl, hbw, x0, x1⟩ := PAt.get (H.out.below hh.out.1) k hlt
      cases f1 : inR (pt l k).1 0 1000
      · have F := hid (goodCurve_bad (by rw [HL.out]; exact hlt) (okAt_1 f1))
        go_wp2_with fail
        refine (s_l7Value _ _).mono ?_
        rintro e _ ⟨rfl, rfl⟩
        go_wp2
        go_ret
        exact ⟨ret_bool F.out.symm, hh.out.1⟩
      · cases f2 : inR (pt l k).2 0 1000
        · have F := hid (goodCurve_bad (by rw [HL.out]; exact hlt) (okAt_2 f2))
          go_wp2_with fail
          refine (s_l7Value _ _).mono ?_
          rintro e _ ⟨rfl, rfl⟩
          go_wp2_with fail
          refine (s_l7Value _ _).mono ?_
          rintro e _ ⟨rfl, rfl⟩
          go_wp2
          go_ret
          exact ⟨ret_bool F.out.symm, hh.out.1⟩
        · by_cases hk0 : k = 0
          · subst hk0
            simp only [Nat.zero_mul, Nat.add_zero] at x0 x1
            by_cases f0 : (pt l 0).1 = 0
            · have f0' : ((pt l 0).1 != 0) = false := by simp [f0]
              have F0 := hid f0
              clear f0
              have F := hid (okAt_5 f1 f2 (Or.inl rfl))
              go_wp2_with fail
              refine (s_l7Value _ _).mono ?_
              rintro e _ ⟨rfl, rfl⟩
              go_wp2_with fail
              refine (s_l7Value _ _).mono ?_
              rintro e _ ⟨rfl, rfl⟩
              go_wp2
              go_quiet (fail)
              go_wp2
              go_roundg (n - (0 + 1))
              case measure => omega
              case rel => exact ⟨0 + 1, by omega, rfl, by go_num, below_drewN hh.out.1 _, all_next hh.out.2.1 F.out, fun _ => F0.out⟩
            · have f0' : ((pt l 0).1 != 0) = true := by simp [f0]
              have F := hid (goodCurve_first f0)
              go_wp2_with fail
              refine (s_l7Value _ _).mono ?_
              rintro e _ ⟨rfl, rfl⟩
              go_wp2_with fail
              refine (s_l7Value _ _).mono ?_
              rintro e _ ⟨rfl, rfl⟩
              go_wp2
              go_ret
              exact ⟨ret_bool F.out.symm, hh.out.1⟩
          · have hk1 : 0 < k := by omega
            have hk2 : k - 1 < n := by omega
            obtain ⟨b2, off2, e2, _, y0, y1⟩ := PAt.get (H.out.below hh.out.1) (k - 1) (by omega)
            cases e2
            have hw : IntKind.i64.wrap ((k : Int) - 1) = ((k - 1 : Nat) : Int) := (IntWalk.i64_in _ (by omega)).trans (by omega)
            by_cases f3 : (pt l k).1 ≤ (pt l (k - 1)).1
            · have F := hid (goodCurve_bad (by rw [HL.out]; exact hlt) (okAt_3 hk0 f3))
              go_wp2_with fail
              refine (s_l7Value _ _).mono ?_
              rintro e _ ⟨rfl, rfl⟩
              go_wp2_with fail
              refine (s_l7Value _ _).mono ?_
              rintro e _ ⟨rfl, rfl⟩
              go_wp2
              go_quiet (fail)
              go_wp2
              go_ret
              exact ⟨ret_bool F.out.symm, below_drewN hh.out.1 _⟩
            · have f3' : (pt l (k - 1)).1 < (pt l k).1 := by omega
              by_cases f4 : (pt l (k - 1)).2 ≤ (pt l k).2
              · have F := hid (goodCurve_bad (by rw [HL.out]; exact hlt) (okAt_4 hk0 f4))
                go_wp2_with fail
                refine (s_l7Value _ _).mono ?_
                rintro e _ ⟨rfl, rfl⟩
                go_wp2_with fail
                refine (s_l7Value _ _).mono ?_
                rintro e _ ⟨rfl, rfl⟩
                go_wp2
                go_quiet (fail)
                go_wp2
                go_ret
                exact ⟨ret_bool F.out.symm, below_drewN hh.out.1 _⟩
              · have f4' : (pt l k).2 < (pt l (k - 1)).2 := by omega
                have F := hid (okAt_5 f1 f2 (Or.inr ⟨f3', f4'⟩))
                go_wp2_with fail
                refine (s_l7Value _ _).mono ?_
                rintro e _ ⟨rfl, rfl⟩
                go_wp2_with fail
                refine (s_l7Value _ _).mono ?_
                rintro e _ ⟨rfl, rfl⟩
                go_wp2
                go_quiet (fail)
                go_wp2
                go_roundg (n - (k + 1))
                case measure => omega
                case rel => exact ⟨k + 1, by omega, rfl, by go_num, below_drewN hh.out.1 _, all_next hh.out.2.1 F.out, fun _ => hh.out.2.2 hk1⟩
    · obtain rfl : k = n := by omega
      cases h1 : inR (k : Int) 2 6
      · have F := hid (goodCurve_len (l := l) (by rw [HL.out]; exact h1))
        go_wp2_with fail
        refine (s_l1In _ _ _ _).mono ?_
        rintro e _ ⟨rfl, rfl⟩
        go_wp2
        go_ret
        exact ⟨ret_bool F.out.symm, hh.out.1⟩
      · have hn2 := inR_iff.1 h1
        have F := hid (goodCurve_all (l := l) (by rw [HL.out]; exact h1) (hh.out.2.2 (by omega)) (by rw [HL.out]; exact hh.out.2.1))
        have H1 := hid h1
        clear h1
        go_wp2_with fail
        refine (s_l1In _ _ _ _).mono ?_
        rintro e _ ⟨rfl, rfl⟩
        go_wp2
        go_ret
        exact ⟨ret_bool (H1.out.trans F.out.symm), hh.out.1⟩

theorem s_IsValidCurve (a : Option Addr) (n c : Nat) (l : List Pt) (w : World) (h : PAt w a n l) (hn : n ≤ 1048576) :
    Calls Try.prog 16 #[.slice a n c] w fun e w' => e = .returned (.bool (goodCurve l)) ∧ Below w.heap.size w w' := by
  go_enter Try.func16, Try.ntmps16
  go_wp2_with fail
  refine (s_l7Good a n c l w h hn).mono ?_
  rintro e w1 ⟨rfl, hb⟩
  go_wp2
  go_ret
  exact ⟨rfl, hb⟩

end Go.Proofs.Ytpcbeapajlchgaa
