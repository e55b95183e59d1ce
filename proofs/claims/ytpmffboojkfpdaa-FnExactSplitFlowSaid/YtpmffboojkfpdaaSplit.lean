/-
  The energy of a split flow.
-/
import Derived.Test.YtpmffboojkfpdaaFuncs
import Derived.Test.YtpmffboojkfpdaaNums
import Derived.Test.YtpmffboojkfpdaaMem
import Derived.Test.YtpmffboojkfpdaaCalm
set_option linter.unusedVariables false
set_option linter.unusedSimpArgs false
namespace Go.Proofs.Ytpmffboojkfpdaa
open Go.RowKit

def goodSizes (l : List Int) : Bool := inR l.length 1 5 && !l.any (fun x => !inR x 1 9)
theorem any_in {l : List Int} {lo hi : Int} : (l.any fun x => !inR x lo hi) = false ↔ ∀ x ∈ l, lo ≤ x ∧ x ≤ hi := by
  rw [List.any_eq_false]
  constructor
  · intro h x hx
    have := h x hx
    simp only [Bool.not_eq_true, Bool.not_eq_false'] at this
    exact inR_iff.1 this
  · intro h x hx
    simp [inR_iff.2 (h x hx)]
theorem goodSizes_iff {l : List Int} : goodSizes l = true ↔ (1 ≤ l.length ∧ l.length ≤ 5) ∧ ∀ x ∈ l, 1 ≤ x ∧ x ≤ 9 := by
  simp only [goodSizes, Bool.and_eq_true, Bool.not_eq_true', any_in, inR_iff]
  constructor
  · rintro ⟨h1, h2⟩; exact ⟨by omega, h2⟩
  · rintro ⟨h1, h2⟩; exact ⟨by omega, h2⟩

theorem enters_areSizes : enters 116 := by intro args w; kernel_rfl
theorem i_areSizes1 (x : Int) (w : World) : Calls Try.prog 116 #[.int .i64 x] w fun e w' => e = .returned (.bool (!inR x 1 9)) ∧ Below w.heap.size w w' := by
  go_enter Try.func116, Try.ntmps116
  go_wp2_with fail
  refine (i_inside _ _ _ _).mono ?_
  rintro e w' ⟨rfl, rfl⟩
  go_wp2
  go_ret
  exact ⟨rfl, by go_grown⟩
theorem i_areSizes (a : Option Addr) (n c : Nat) (l : List Int) (w : World) (h : IntsAt w a n l) (hn : n ≤ 1048576) :
    Calls Try.prog 97 #[.slice a n c] w fun e w' => e = .returned (.bool (goodSizes l)) ∧ Below w.heap.size w w' := by
  have hl := h.1
  have H := hid h
  clear h
  cases h1 : inR (n : Int) 1 5
  · have E := hid (show false = goodSizes l by simp [goodSizes, hl, h1])
    have H1 := hid h1
    clear h1 hl
    go_enter Try.func97, Try.ntmps97
    go_wp2_with fail
    refine (i_inside _ _ _ _).mono ?_
    rintro e _ ⟨rfl, rfl⟩
    rw [H1.out]
    go_wp2
    go_ret
    exact ⟨ret_bool E.out, by go_grown⟩
  · have E := hid (show (!l.any (fun x => !inR x 1 9)) = goodSizes l by simp [goodSizes, hl, h1])
    have H1 := hid h1
    clear h1 hl
    go_enter Try.func97, Try.ntmps97
    go_wp2_with fail
    refine (i_inside _ _ _ _).mono ?_
    rintro e _ ⟨rfl, rfl⟩
    rw [H1.out]
    go_wp2_with fail
    refine (f_ContainsFunc 116 #[] (fun x => !inR x 1 9) enters_areSizes a n c l _ (H.out.below (by go_grown)) (by omega) (fun x w' _ _ => i_areSizes1 x w')).mono ?_
    rintro e w1 ⟨rfl, hb1⟩
    go_wp2
    go_ret
    exact ⟨ret_bool E.out, hb1⟩

set_option maxHeartbeats 1000000 in
theorem s_l10Sizes (a : Option Addr) (n c : Nat) (l : List Int) (w : World) (h : IntsAt w a n l) (hn : n ≤ 1048576) :
    Calls Try.prog 95 #[.slice a n c] w fun e w' => e = .returned (.bool (goodSizes l)) ∧ w = w' := by
  have H := hid h
  have HL := hid h.1
  clear h
  go_enter Try.func95, Try.ntmps95
  go_wp2
  go_loopg [3] n (fun g i wr => ∃ k : Nat, k ≤ n ∧ g = n - k ∧ i = .int .i64 k ∧ w = wr ∧ Hid (∀ x ∈ l.take k, 1 ≤ x ∧ x ≤ 9))
  case atStart => exact ⟨0, Nat.zero_le _, rfl, rfl, rfl, hid (fun x hx => by simp at hx)⟩
  case round =>
    obtain ⟨k, hk, rfl, rfl, rfl, hh⟩ := hrel
    by_cases hlt : k < n
    · obtain ⟨b, off, rfl, hbw, hcell⟩ := H.out.2 k hlt
      cases hx : inR (l[k]?.getD 0) 1 9
      · have HX := hid hx
        clear hx
        go_wp2_with fail
        refine (s_l1In _ _ _ _).mono ?_
        rintro e _ ⟨rfl, rfl⟩
        rw [HX.out]
        go_wp2
        go_ret
        refine ⟨ret_bool ?_, rfl⟩
        have : goodSizes l ≠ true := fun e => by
          have h2 := (goodSizes_iff.1 e).2 _ (getD_mem' (k := k) (by have := HL.out; omega))
          rw [inR_iff.2 h2] at HX
          exact absurd HX.out (by simp)
        simpa using this.symm
      · have HX := hid hx
        have hx2 := inR_iff.1 hx
        clear hx
        go_wp2_with fail
        refine (s_l1In _ _ _ _).mono ?_
        rintro e _ ⟨rfl, rfl⟩
        rw [HX.out]
        go_wp2
        go_roundg (n - (k + 1))
        case rel =>
          refine ⟨k + 1, by omega, rfl, by go_num, rfl, hid ?_⟩
          intro x hx
          rw [take_succ' l k (by have := HL.out; omega), List.mem_append, List.mem_singleton] at hx
          rcases hx with hx | rfl
          · exact hh.out x hx
          · exact hx2
        case measure => omega
    · obtain rfl : k = n := by omega
      have hall : l.take k = l := List.take_of_length_le (by have := HL.out; omega)
      have E := hid (show inR (k : Int) 1 5 = goodSizes l by rw [hall] at hh; simp [goodSizes, any_in.2 hh.out, HL.out])
      clear hall
      go_wp2_with fail
      refine (s_l1In _ _ _ _).mono ?_
      rintro e _ ⟨rfl, rfl⟩
      go_wp2
      go_ret
      exact ⟨ret_bool E.out, rfl⟩

/-- The sum of the parts' energies. -/
def cubes (s p : List Int) (k : Nat) : Int := ((List.range k).map fun j => s[j]?.getD 0 * p[j]?.getD 0 * p[j]?.getD 0 * p[j]?.getD 0).sum
theorem cubes_succ (s p : List Int) (k : Nat) : cubes s p (k + 1) = cubes s p k + s[k]?.getD 0 * p[k]?.getD 0 * p[k]?.getD 0 * p[k]?.getD 0 := by
  simp [cubes, List.range_succ]
theorem cube_fit {x y : Int} (hx : 1 ≤ x ∧ x ≤ 9) (hy : 0 ≤ y ∧ y ≤ 60) : (0 ≤ x * y ∧ x * y ≤ 540) ∧ (0 ≤ x * y * y ∧ x * y * y ≤ 32400) ∧ (0 ≤ x * y * y * y ∧ x * y * y * y ≤ 1944000) := by
  have a1 := mul_in (x := x) (y := y) (A := 9) (B := 60) (by omega) (by omega)
  have a2 := Int.mul_nonneg (a := x) (b := y) (by omega) (by omega)
  have b1 := mul_in (x := x * y) (y := y) (A := 540) (B := 60) (by omega) (by omega)
  have b2 := Int.mul_nonneg (a := x * y) (b := y) (by omega) (by omega)
  have c1 := mul_in (x := x * y * y) (y := y) (A := 32400) (B := 60) (by omega) (by omega)
  have c2 := Int.mul_nonneg (a := x * y * y) (b := y) (by omega) (by omega)
  simp only [Int.reduceMul] at a1 b1 c1
  exact ⟨⟨a2, by omega⟩, ⟨b2, by omega⟩, ⟨c2, by omega⟩⟩
/-- What SplitEnergy returns. -/
def splitE (s p : List Int) : Int × Bool := if goodSizes s = true ∧ p.length = s.length ∧ (p.any fun x => !inR x 0 60) = false then (cubes s p p.length, true) else (0, false)

theorem s_l10Cube (x y : Int) (w : World) (hx : 1 ≤ x ∧ x ≤ 9) (hy : 0 ≤ y ∧ y ≤ 60) : Calls Try.prog 96 #[.int .i64 x, .int .i64 y] w fun e w' => e = .returned (.int .i64 (x * y * y * y)) ∧ w = w' := by
  have := cube_fit hx hy
  go_enter Try.func96, Try.ntmps96
  go_wp2
  go_ret
  exact ⟨rfl, rfl⟩

theorem i_SplitEnergy_no (a b : Option Addr) (n m c d : Nat) (s p : List Int) (w : World) (h : IntsAt w a n s) (h' : IntsAt w b m p) (hn : n ≤ 1048576) (hm : m ≤ 1048576) (hv : goodSizes s = false ∨ m ≠ n) :
    Calls Try.prog 49 #[.slice a n c, .slice b m d] w fun e w' => e = .returned (.tuple #[.int .i64 0, .bool false]) ∧ Below w.heap.size w w' := by
  have H := hid h
  clear h h'
  cases h1 : goodSizes s
  · have HG := hid h1
    clear h1 hv
    go_enter Try.func49, Try.ntmps49
    go_wp2_with fail
    refine (i_areSizes _ _ _ s _ H.out (by omega)).mono ?_
    rintro e w1 ⟨rfl, hb1⟩
    rw [HG.out]
    go_wp2
    go_ret2
    exact ⟨rfl, by first | exact hb1 | exact Below.refl _ _⟩
  · have HG := hid h1
    have hne : m ≠ n := by rcases hv with h | h; (rw [h1] at h; cases h); exact h
    clear h1 hv
    go_enter Try.func49, Try.ntmps49
    go_wp2_with fail
    refine (i_areSizes _ _ _ s _ H.out (by omega)).mono ?_
    rintro e w1 ⟨rfl, hb1⟩
    rw [HG.out]
    go_wp2
    go_ret2
    exact ⟨rfl, by first | exact hb1 | exact Below.refl _ _⟩
theorem s_SplitEnergy_no (a b : Option Addr) (n m c d : Nat) (s p : List Int) (w : World) (h : IntsAt w a n s) (h' : IntsAt w b m p) (hn : n ≤ 1048576) (hm : m ≤ 1048576) (hv : goodSizes s = false ∨ m ≠ n) :
    Calls Try.prog 47 #[.slice a n c, .slice b m d] w fun e w' => e = .returned (.tuple #[.int .i64 0, .bool false]) ∧ Below w.heap.size w w' := by
  have H := hid h
  clear h h'
  cases h1 : goodSizes s
  · have HG := hid h1
    clear h1 hv
    go_enter Try.func47, Try.ntmps47
    go_wp2_with fail
    refine (s_l10Sizes _ _ _ s _ H.out (by omega)).mono ?_
    rintro e _ ⟨rfl, rfl⟩
    rw [HG.out]
    go_wp2
    go_ret2
    exact ⟨rfl, by first | exact hb1 | exact Below.refl _ _⟩
  · have HG := hid h1
    have hne : m ≠ n := by rcases hv with h | h; (rw [h1] at h; cases h); exact h
    clear h1 hv
    go_enter Try.func47, Try.ntmps47
    go_wp2_with fail
    refine (s_l10Sizes _ _ _ s _ H.out (by omega)).mono ?_
    rintro e _ ⟨rfl, rfl⟩
    rw [HG.out]
    go_wp2
    go_ret2
    exact ⟨rfl, by first | exact hb1 | exact Below.refl _ _⟩

set_option maxHeartbeats 1000000 in
theorem i_SplitEnergy_yes (a b : Option Addr) (n c d : Nat) (s p : List Int) (w : World) (h : IntsAt w a n s) (h' : IntsAt w b n p) (hg : goodSizes s = true) :
    Calls Try.prog 49 #[.slice a n c, .slice b n d] w fun e w' => e = .returned (.tuple #[.int .i64 (splitE s p).1, .bool (splitE s p).2]) ∧ Below w.heap.size w w' := by
  have hg2 := goodSizes_iff.1 hg
  have hn : n ≤ 5 := by have := h.1; omega
  have H := hid h
  have H' := hid h'
  have HL := hid h.1
  have HL' := hid h'.1
  have HG := hid hg
  have HS := hid hg2.2
  clear h h' hg hg2
  go_enter Try.func49, Try.ntmps49
  go_wp2_with fail
  refine (i_areSizes _ _ _ s _ H.out (by omega)).mono ?_
  rintro e w1 ⟨rfl, hb1⟩
  rw [HG.out]
  have HB1 := hid hb1
  clear hb1
  go_wp2
  go_loopg [6, 21] n (fun g t i wr => ∃ k : Nat, k ≤ n ∧ g = n - k ∧ i = .int .i64 k ∧ t = .int .i64 (cubes s p k) ∧ (0 ≤ cubes s p k ∧ cubes s p k ≤ 1944000 * (k : Int)) ∧ Hid (Below w.heap.size w wr) ∧ Hid (∀ x ∈ p.take k, 0 ≤ x ∧ x ≤ 60))
  case atStart => exact ⟨0, Nat.zero_le _, rfl, rfl, rfl, by simp [cubes], HB1, hid (fun x hx => by simp at hx)⟩
  case round =>
    obtain ⟨k, hk, rfl, rfl, rfl, hs, hB, hh⟩ := hrel
    by_cases hlt : k < n
    · obtain ⟨b1, off1, rfl, hbw1, hcell1⟩ := (H.out.below hB.out).2 k hlt
      obtain ⟨b2, off2, rfl, hbw2, hcell2⟩ := (H'.out.below hB.out).2 k hlt
      have hs1 := HS.out _ (getD_mem' (k := k) (by have := HL.out; omega))
      cases hx : inR (p[k]?.getD 0) 0 60
      · have HX := hid hx
        have E := hid (show splitE s p = (0, false) by
          unfold splitE
          rw [if_neg]
          rintro ⟨-, -, h3⟩
          have := any_in.1 h3 _ (getD_mem' (k := k) (by have := HL'.out; omega))
          rw [inR_iff.2 this] at hx
          cases hx)
        clear hx
        go_wp2_with fail
        refine (i_inside _ _ _ _).mono ?_
        rintro e _ ⟨rfl, rfl⟩
        rw [HX.out]
        go_wp2
        go_ret2
        rw [E.out]
        exact ⟨rfl, hB.out⟩
      · have HX := hid hx
        have hx2 := inR_iff.1 hx
        obtain ⟨f1, f2, f3⟩ := cube_fit hs1 hx2
        clear hx
        go_wp2_with fail
        refine (i_inside _ _ _ _).mono ?_
        rintro e _ ⟨rfl, rfl⟩
        rw [HX.out]
        have HB := hid hB.out
        go_wp2
        go_roundg (n - (k + 1))
        case rel =>
          refine ⟨k + 1, by omega, rfl, by go_num, by rw [cubes_succ], by rw [cubes_succ]; omega, HB, hid ?_⟩
          intro x hx
          rw [take_succ' p k (by have := HL'.out; omega), List.mem_append, List.mem_singleton] at hx
          rcases hx with hx | rfl
          · exact hh.out x hx
          · exact hx2
        case measure => omega
    · obtain rfl : k = n := by omega
      have E := hid (show splitE s p = (cubes s p k, true) by
        unfold splitE
        rw [if_pos, HL'.out]
        refine ⟨HG.out, by have := HL.out; have := HL'.out; omega, any_in.2 ?_⟩
        have := hh.out
        rwa [List.take_of_length_le (by have := HL'.out; omega)] at this)
      go_wp2
      go_ret2
      rw [E.out]
      exact ⟨rfl, hB.out⟩

set_option maxHeartbeats 1000000 in
theorem s_SplitEnergy_yes (a b : Option Addr) (n c d : Nat) (s p : List Int) (w : World) (h : IntsAt w a n s) (h' : IntsAt w b n p) (hg : goodSizes s = true) :
    Calls Try.prog 47 #[.slice a n c, .slice b n d] w fun e w' => e = .returned (.tuple #[.int .i64 (splitE s p).1, .bool (splitE s p).2]) ∧ Below w.heap.size w w' := by
  have hg2 := goodSizes_iff.1 hg
  have hn : n ≤ 5 := by have := h.1; omega
  have H := hid h
  have H' := hid h'
  have HL := hid h.1
  have HL' := hid h'.1
  have HG := hid hg
  have HS := hid hg2.2
  clear h h' hg hg2
  go_enter Try.func47, Try.ntmps47
  go_wp2_with fail
  refine (s_l10Sizes _ _ _ s _ H.out (by omega)).mono ?_
  rintro e _ ⟨rfl, rfl⟩
  rw [HG.out]
  have HB1 := hid (Below.refl w.heap.size w)
  go_wp2
  go_loopg [6, 7] n (fun g t i wr => ∃ k : Nat, k ≤ n ∧ g = n - k ∧ i = .int .i64 k ∧ t = .int .i64 (cubes s p k) ∧ (0 ≤ cubes s p k ∧ cubes s p k ≤ 1944000 * (k : Int)) ∧ Hid (Below w.heap.size w wr) ∧ Hid (∀ x ∈ p.take k, 0 ≤ x ∧ x ≤ 60))
  case atStart => exact ⟨0, Nat.zero_le _, rfl, rfl, rfl, by simp [cubes], HB1, hid (fun x hx => by simp at hx)⟩
  case round =>
    obtain ⟨k, hk, rfl, rfl, rfl, hs, hB, hh⟩ := hrel
    by_cases hlt : k < n
    · obtain ⟨b1, off1, rfl, hbw1, hcell1⟩ := (H.out.below hB.out).2 k hlt
      obtain ⟨b2, off2, rfl, hbw2, hcell2⟩ := (H'.out.below hB.out).2 k hlt
      have hs1 := HS.out _ (getD_mem' (k := k) (by have := HL.out; omega))
      cases hx : inR (p[k]?.getD 0) 0 60
      · have HX := hid hx
        have E := hid (show splitE s p = (0, false) by
          unfold splitE
          rw [if_neg]
          rintro ⟨-, -, h3⟩
          have := any_in.1 h3 _ (getD_mem' (k := k) (by have := HL'.out; omega))
          rw [inR_iff.2 this] at hx
          cases hx)
        clear hx
        go_wp2_with fail
        refine (s_l1In _ _ _ _).mono ?_
        rintro e _ ⟨rfl, rfl⟩
        rw [HX.out]
        go_wp2
        go_ret2
        rw [E.out]
        exact ⟨rfl, hB.out⟩
      · have HX := hid hx
        have hx2 := inR_iff.1 hx
        obtain ⟨f1, f2, f3⟩ := cube_fit hs1 hx2
        clear hx
        go_wp2_with fail
        refine (s_l1In _ _ _ _).mono ?_
        rintro e _ ⟨rfl, rfl⟩
        rw [HX.out]
        have HB := hid hB.out
        have hw := IntWalk.i64_in (cubes s p k + s[k]?.getD 0 * p[k]?.getD 0 * p[k]?.getD 0 * p[k]?.getD 0) (by omega)
        have X := hid (show Below w.heap.size w wr.drew ∧ wr.drew.cell? ⟨b1, off1 + k, none⟩ = some (.int .i64 (s[k]?.getD 0)) ∧ wr.drew.cell? ⟨b2, off2 + k, none⟩ = some (.int .i64 (p[k]?.getD 0)) from ⟨hB.out.drew, hcell1, hcell2⟩)
        clear hcell1 hcell2
        go_upto_region 9 with fail
        refine wp_region_calm (C := (fun w' => Below w.heap.size w w' ∧ w'.cell? ⟨b1, off1 + k, none⟩ = some (.int .i64 (s[k]?.getD 0)) ∧ w'.cell? ⟨b2, off2 + k, none⟩ = some (.int .i64 (p[k]?.getD 0)))) (by kernel_rfl) (by kernel_rfl) (X.out) ?_
        repeat
          first
            | go_big_quiet_skip
            | (go_big_quiet_want
               first
                 | (unfold Oper.quiet
                    apply Exists.intro
                    refine ⟨fun wq hq => ?_, ?_⟩
                    · (try dsimp only at hq
                       simp [go_sem, Oper.quietAt, Oper.quietUpon, BigFrame.eval_const, BigFrame.eval_global, BigFrame.eval_func, ↓IntWalk.iteOmega, *]
                       first | done | rfl | (refine calm_same hq (s_l10Cube _ _ _ hs1 hx2) rfl))
                    simp only [Act.put, List.setIfInBounds_toArray, List.set_cons_succ, List.set_cons_zero]
                    go_big_quiet_on))
        refine wpQuiet_nil ?_
        intro wc hcalm
        try dsimp only at hcalm
        have HB := hid hcalm.1
        clear hcalm hw
        go_wp2
        go_roundg (n - (k + 1))
        case rel =>
          refine ⟨k + 1, by omega, rfl, by go_num, by rw [cubes_succ], by rw [cubes_succ]; omega, HB, hid ?_⟩
          intro x hx
          rw [take_succ' p k (by have := HL'.out; omega), List.mem_append, List.mem_singleton] at hx
          rcases hx with hx | rfl
          · exact hh.out x hx
          · exact hx2
        case measure => omega
    · obtain rfl : k = n := by omega
      have E := hid (show splitE s p = (cubes s p k, true) by
        unfold splitE
        rw [if_pos, HL'.out]
        refine ⟨HG.out, by have := HL.out; have := HL'.out; omega, any_in.2 ?_⟩
        have := hh.out
        rwa [List.take_of_length_le (by have := HL'.out; omega)] at this)
      go_wp2
      go_ret2
      rw [E.out]
      exact ⟨rfl, hB.out⟩

theorem i_SplitEnergy (a b : Option Addr) (n m c d : Nat) (s p : List Int) (w : World) (h : IntsAt w a n s) (h' : IntsAt w b m p) (hn : n ≤ 1048576) (hm : m ≤ 1048576) (x : Int) (y : Bool) (hR : splitE s p = (x, y)) :
    Calls Try.prog 49 #[.slice a n c, .slice b m d] w fun e w' => e = .returned (.tuple #[.int .i64 x, .bool y]) ∧ Below w.heap.size w w' := by
  by_cases hv : goodSizes s = true ∧ m = n
  · obtain ⟨h1, rfl⟩ := hv
    have := i_SplitEnergy_yes a b m c d s p w h h' h1
    rw [hR] at this
    exact this
  · have e : splitE s p = (0, false) := by
      unfold splitE
      rw [if_neg]
      rintro ⟨h1, h2, -⟩
      exact hv ⟨h1, by have := h.1; have := h'.1; omega⟩
    rw [e] at hR
    cases hR
    refine i_SplitEnergy_no a b n m c d s p w h h' hn hm ?_
    cases h1 : goodSizes s
    · exact .inl rfl
    · exact .inr fun e => hv ⟨h1, e⟩
theorem s_SplitEnergy (a b : Option Addr) (n m c d : Nat) (s p : List Int) (w : World) (h : IntsAt w a n s) (h' : IntsAt w b m p) (hn : n ≤ 1048576) (hm : m ≤ 1048576) (x : Int) (y : Bool) (hR : splitE s p = (x, y)) :
    Calls Try.prog 47 #[.slice a n c, .slice b m d] w fun e w' => e = .returned (.tuple #[.int .i64 x, .bool y]) ∧ Below w.heap.size w w' := by
  by_cases hv : goodSizes s = true ∧ m = n
  · obtain ⟨h1, rfl⟩ := hv
    have := s_SplitEnergy_yes a b m c d s p w h h' h1
    rw [hR] at this
    exact this
  · have e : splitE s p = (0, false) := by
      unfold splitE
      rw [if_neg]
      rintro ⟨h1, h2, -⟩
      exact hv ⟨h1, by have := h.1; have := h'.1; omega⟩
    rw [e] at hR
    cases hR
    refine s_SplitEnergy_no a b n m c d s p w h h' hn hm ?_
    cases h1 : goodSizes s
    · exact .inl rfl
    · exact .inr fun e => hv ⟨h1, e⟩

end Go.Proofs.Ytpmffboojkfpdaa
