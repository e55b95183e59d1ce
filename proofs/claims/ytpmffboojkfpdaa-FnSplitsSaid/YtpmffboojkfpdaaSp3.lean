/-
  Texts of this claim, joined: Split, SRows, SplitT.
-/
import Derived.Test.YtpmffboojkfpdaaSp1
import Derived.Test.YtpmffboojkfpdaaSp2
/-
  The energy of a split flow.
-/
set_option linter.unusedVariables false
set_option linter.unusedSimpArgs false
namespace Go.Proofs.Ytpmffboojkfpdaa
open Go.RowKit

def goodSizes (l : List Int) : Bool := inR l.length 1 5 && !l.any (fun x => !inR x 1 9)
theorem any_inS {l : List Int} {lo hi : Int} : (l.any fun x => !inR x lo hi) = false ↔ ∀ x ∈ l, lo ≤ x ∧ x ≤ hi := by
  rw [List.any_eq_false]
  constructor
  · intro h x hx
    have := h x hx
    simp only [Bool.not_eq_true, Bool.not_eq_false'] at this
    exact inR_iff.1 this
  · intro h x hx
    simp [inR_iff.2 (h x hx)]
theorem goodSizes_iff {l : List Int} : goodSizes l = true ↔ (1 ≤ l.length ∧ l.length ≤ 5) ∧ ∀ x ∈ l, 1 ≤ x ∧ x ≤ 9 := by
  simp only [goodSizes, Bool.and_eq_true, Bool.not_eq_true', any_inS, inR_iff]
  constructor
  · rintro ⟨h1, h2⟩; exact ⟨by omega, h2⟩
  · rintro ⟨h1, h2⟩; exact ⟨by omega, h2⟩

theorem enters_areSizes : enters 116 := by intro args w; kernel_rfl
theorem i_areSizes1 (x : Int) (w : World) : Calls Try.prog 116 #[.int .i64 x] w fun e w' => e = .returned (.bool (!inR x 1 9)) ∧ Below w.heap.size w w' := by
  go_enter Try.func116, Try.ntmps116
  go_wp2_with fail
  refine (i_inside _ _ _ _).mono ?_
  rintro e w' ⟨rfl, rfl⟩
  go_wp2
  go_ret
  exact ⟨rfl, by go_grown⟩
theorem i_areSizes (a : Option Addr) (n c : Nat) (l : List Int) (w : World) (h : IntsAt w a n l) (hn : n ≤ 1048576) :
    Calls Try.prog 97 #[.slice a n c] w fun e w' => e = .returned (.bool (goodSizes l)) ∧ Below w.heap.size w w' := by
  have hl := h.1
  have H := hid h
  clear h
  cases h1 : inR (n : Int) 1 5
  · have E := hid (show false = goodSizes l by simp [goodSizes, hl, h1])
    have H1 := hid h1
    clear h1 hl
    go_enter Try.func97, Try.ntmps97
    go_wp2_with fail
    refine (i_inside _ _ _ _).mono ?_
    rintro e _ ⟨rfl, rfl⟩
    rw [H1.out]
    go_wp2
    go_ret
    exact ⟨ret_bool E.out, by go_grown⟩
  · have E := hid (show (!l.any (fun x => !inR x 1 9)) = goodSizes l by simp [goodSizes, hl, h1])
    have H1 := hid h1
    clear h1 hl
    go_enter Try.func97, Try.ntmps97
    go_wp2_with fail
    refine (i_inside _ _ _ _).mono ?_
    rintro e _ ⟨rfl, rfl⟩
    rw [H1.out]
    go_wp2_with fail
    refine (f_ContainsFunc 116 #[] (fun x => !inR x 1 9) enters_areSizes a n c l _ (H.out.below (by go_grown)) (by omega) (fun x w' _ _ => i_areSizes1 x w')).mono ?_
    rintro e w1 ⟨rfl, hb1⟩
    go_wp2
    go_ret
    exact ⟨ret_bool E.out, hb1⟩

set_option maxHeartbeats 1000000 in
theorem s_l10Sizes (a : Option Addr) (n c : Nat) (l : List Int) (w : World) (h : IntsAt w a n l) (hn : n ≤ 1048576) :
    Calls Try.prog 95 #[.slice a n c] w fun e w' => e = .returned (.bool (goodSizes l)) ∧ w = w' := by
  have H := hid h
  have HL := hid h.1
  clear h
  go_enter Try.func95, Try.ntmps95
  go_wp2
  go_loopg [3] n (fun g i wr => ∃ k : Nat, k ≤ n ∧ g = n - k ∧ i = .int .i64 k ∧ w = wr ∧ Hid (∀ x ∈ l.take k, 1 ≤ x ∧ x ≤ 9))
  case atStart => exact ⟨0, Nat.zero_le _, rfl, rfl, rfl, hid (fun x hx => by simp at hx)⟩
  case round =>
    obtain ⟨k, hk, rfl, rfl, rfl, hh⟩ := hrel
    by_cases hlt : k < n
    · obtain ⟨b, off, rfl, hbw, hcell⟩ := H.out.2 k hlt
      cases hx : inR (l[k]?.getD 0) 1 9
      · have HX := hid hx
        clear hx
        go_wp2_with fail
        refine (s_l1In _ _ _ _).mono ?_
        rintro e _ ⟨rfl, rfl⟩
        rw [HX.out]
        go_wp2
        go_ret
        refine ⟨ret_bool ?_, rfl⟩
        have : goodSizes l ≠ true := fun e => by
          have h2 := (goodSizes_iff.1 e).2 _ (getD_mem' (k := k) (by have := HL.out; omega))
          rw [inR_iff.2 h2] at HX
          exact absurd HX.out (by simp)
        simpa using this.symm
      · have HX := hid hx
        have hx2 := inR_iff.1 hx
        clear hx
        go_wp2_with fail
        refine (s_l1In _ _ _ _).mono ?_
        rintro e _ ⟨rfl, rfl⟩
        rw [HX.out]
        go_wp2
        go_roundg (n - (k + 1))
        case rel =>
          refine ⟨k + 1, by omega, rfl, by go_num, rfl, hid ?_⟩
          intro x hx
          rw [take_succ' l k (by have := HL.out; omega), List.mem_append, List.mem_singleton] at hx
          rcases hx with hx | rfl
          · exact hh.out x hx
          · exact hx2
        case measure => omega
    · obtain rfl : k = n := by omega
      have hall : l.take k = l := List.take_of_length_le (by have := HL.out; omega)
      have E := hid (show inR (k : Int) 1 5 = goodSizes l by rw [hall] at hh; simp [goodSizes, any_inS.2 hh.out, HL.out])
      clear hall
      go_wp2_with fail
      refine (s_l1In _ _ _ _).mono ?_
      rintro e _ ⟨rfl, rfl⟩
      go_wp2
      go_ret
      exact ⟨ret_bool E.out, rfl⟩

/-- The sum of the parts' energies. -/
def cubes (s p : List Int) (k : Nat) : Int := ((List.range k).map fun j => s[j]?.getD 0 * p[j]?.getD 0 * p[j]?.getD 0 * p[j]?.getD 0).sum
theorem cubes_succ (s p : List Int) (k : Nat) : cubes s p (k + 1) = cubes s p k + s[k]?.getD 0 * p[k]?.getD 0 * p[k]?.getD 0 * p[k]?.getD 0 := by
  simp [cubes, List.range_succ]
theorem cube_fit {x y : Int} (hx : 1 ≤ x ∧ x ≤ 9) (hy : 0 ≤ y ∧ y ≤ 60) : (0 ≤ x * y ∧ x * y ≤ 540) ∧ (0 ≤ x * y * y ∧ x * y * y ≤ 32400) ∧ (0 ≤ x * y * y * y ∧ x * y * y * y ≤ 1944000) := by
  have a1 := mul_in (x := x) (y := y) (A := 9) (B := 60) (by omega) (by omega)
  have a2 := Int.mul_nonneg (a := x) (b := y) (by omega) (by omega)
  have b1 := mul_in (x := x * y) (y := y) (A := 540) (B := 60) (by omega) (by omega)
  have b2 := Int.mul_nonneg (a := x * y) (b := y) (by omega) (by omega)
  have c1 := mul_in (x := x * y * y) (y := y) (A := 32400) (B := 60) (by omega) (by omega)
  have c2 := Int.mul_nonneg (a := x * y * y) (b := y) (by omega) (by omega)
  simp only [Int.reduceMul] at a1 b1 c1
  exact ⟨⟨a2, by omega⟩, ⟨b2, by omega⟩, ⟨c2, by omega⟩⟩
/-- What SplitEnergy returns. -/
def splitE (s p : List Int) : Int × Bool := if goodSizes s = true ∧ p.length = s.length ∧ (p.any fun x => !inR x 0 60) = false then (cubes s p p.length, true) else (0, false)

theorem s_l10Cube (x y : Int) (w : World) (hx : 1 ≤ x ∧ x ≤ 9) (hy : 0 ≤ y ∧ y ≤ 60) : Calls Try.prog 96 #[.int .i64 x, .int .i64 y] w fun e w' => e = .returned (.int .i64 (x * y * y * y)) ∧ w = w' := by
  have := cube_fit hx hy
  go_enter Try.func96, Try.ntmps96
  go_wp2
  go_ret
  exact ⟨rfl, rfl⟩

theorem i_SplitEnergy_no (a b : Option Addr) (n m c d : Nat) (s p : List Int) (w : World) (h : IntsAt w a n s) (h' : IntsAt w b m p) (hn : n ≤ 1048576) (hm : m ≤ 1048576) (hv : goodSizes s = false ∨ m ≠ n) :
    Calls Try.prog 49 #[.slice a n c, .slice b m d] w fun e w' => e = .returned (.tuple #[.int .i64 0, .bool false]) ∧ Below w.heap.size w w' := by
  have H := hid h
  clear h h'
  cases h1 : goodSizes s
  · have HG := hid h1
    clear h1 hv
    go_enter Try.func49, Try.ntmps49
    go_wp2_with fail
    refine (i_areSizes _ _ _ s _ H.out (by omega)).mono ?_
    rintro e w1 ⟨rfl, hb1⟩
    rw [HG.out]
    go_wp2
    go_ret2
    exact ⟨rfl, by first | exact hb1 | exact Below.refl _ _⟩
  · have HG := hid h1
    have hne : m ≠ n := by rcases hv with h | h; (rw [h1] at h; cases h); exact h
    clear h1 hv
    go_enter Try.func49, Try.ntmps49
    go_wp2_with fail
    refine (i_areSizes _ _ _ s _ H.out (by omega)).mono ?_
    rintro e w1 ⟨rfl, hb1⟩
    rw [HG.out]
    go_wp2
    go_ret2
    exact ⟨rfl, by first | exact hb1 | exact Below.refl _ _⟩
theorem s_SplitEnergy_no (a b : Option Addr) (n m c d : Nat) (s p : List Int) (w : World) (h : IntsAt w a n s) (h' : IntsAt w b m p) (hn : n ≤ 1048576) (hm : m ≤ 1048576) (hv : goodSizes s = false ∨ m ≠ n) :
    Calls Try.prog 47 #[.slice a n c, .slice b m d] w fun e w' => e = .returned (.tuple #[.int .i64 0, .bool false]) ∧ Below w.heap.size w w' := by
  have H := hid h
  clear h h'
  cases h1 : goodSizes s
  · have HG := hid h1
    clear h1 hv
    go_enter Try.func47, Try.ntmps47
    go_wp2_with fail
    refine (s_l10Sizes _ _ _ s _ H.out (by omega)).mono ?_
    rintro e _ ⟨rfl, rfl⟩
    rw [HG.out]
    go_wp2
    go_ret2
    exact ⟨rfl, by first | exact hb1 | exact Below.refl _ _⟩
  · have HG := hid h1
    have hne : m ≠ n := by rcases hv with h | h; (rw [h1] at h; cases h); exact h
    clear h1 hv
    go_enter Try.func47, Try.ntmps47
    go_wp2_with fail
    refine (s_l10Sizes _ _ _ s _ H.out (by omega)).mono ?_
    rintro e _ ⟨rfl, rfl⟩
    rw [HG.out]
    go_wp2
    go_ret2
    exact ⟨rfl, by first | exact hb1 | exact Below.refl _ _⟩

set_option maxHeartbeats 1000000 in
theorem i_SplitEnergy_yes (a b : Option Addr) (n c d : Nat) (s p : List Int) (w : World) (h : IntsAt w a n s) (h' : IntsAt w b n p) (hg : goodSizes s = true) :
    Calls Try.prog 49 #[.slice a n c, .slice b n d] w fun e w' => e = .returned (.tuple #[.int .i64 (splitE s p).1, .bool (splitE s p).2]) ∧ Below w.heap.size w w' := by
  have hg2 := goodSizes_iff.1 hg
  have hn : n ≤ 5 := by have := h.1; omega
  have H := hid h
  have H' := hid h'
  have HL := hid h.1
  have HL' := hid h'.1
  have HG := hid hg
  have HS := hid hg2.2
  clear h h' hg hg2
  go_enter Try.func49, Try.ntmps49
  go_wp2_with fail
  refine (i_areSizes _ _ _ s _ H.out (by omega)).mono ?_
  rintro e w1 ⟨rfl, hb1⟩
  rw [HG.out]
  have HB1 := hid hb1
  clear hb1
  go_wp2
  go_loopg [6, 21] n (fun g t i wr => ∃ k : Nat, k ≤ n ∧ g = n - k ∧ i = .int .i64 k ∧ t = .int .i64 (cubes s p k) ∧ (0 ≤ cubes s p k ∧ cubes s p k ≤ 1944000 * (k : Int)) ∧ Hid (Below w.heap.size w wr) ∧ Hid (∀ x ∈ p.take k, 0 ≤ x ∧ x ≤ 60))
  case atStart => exact ⟨0, Nat.zero_le _, rfl, rfl, rfl, by simp [cubes], HB1, hid (fun x hx => by simp at hx)⟩
  case round =>
    obtain ⟨k, hk, rfl, rfl, rfl, hs, hB, hh⟩ := hrel
    by_cases hlt : k < n
    · obtain ⟨b1, off1, rfl, hbw1, hcell1⟩ := (H.out.below hB.out).2 k hlt
      obtain ⟨b2, off2, rfl, hbw2, hcell2⟩ := (H'.out.below hB.out).2 k hlt
      have hs1 := HS.out _ (getD_mem' (k := k) (by have := HL.out; omega))
      cases hx : inR (p[k]?.getD 0) 0 60
      · have HX := hid hx
        have E := hid (show splitE s p = (0, false) by
          unfold splitE
          rw [if_neg]
          rintro ⟨-, -, h3⟩
          have := any_inS.1 h3 _ (getD_mem' (k := k) (by have := HL'.out; omega))
          rw [inR_iff.2 this] at hx
          cases hx)
        clear hx
        go_wp2_with fail
        refine (i_inside _ _ _ _).mono ?_
        rintro e _ ⟨rfl, rfl⟩
        rw [HX.out]
        go_wp2
        go_ret2
        rw [E.out]
        exact ⟨rfl, hB.out⟩
      · have HX := hid hx
        have hx2 := inR_iff.1 hx
        obtain ⟨f1, f2, f3⟩ := cube_fit hs1 hx2
        clear hx
        go_wp2_with fail
        refine (i_inside _ _ _ _).mono ?_
        rintro e _ ⟨rfl, rfl⟩
        rw [HX.out]
        have HB := hid hB.out
        go_wp2
        go_roundg (n - (k + 1))
        case rel =>
          refine ⟨k + 1, by omega, rfl, by go_num, by rw [cubes_succ], by rw [cubes_succ]; omega, HB, hid ?_⟩
          intro x hx
          rw [take_succ' p k (by have := HL'.out; omega), List.mem_append, List.mem_singleton] at hx
          rcases hx with hx | rfl
          · exact hh.out x hx
          · exact hx2
        case measure => omega
    · obtain rfl : k = n := by omega
      have E := hid (show splitE s p = (cubes s p k, true) by
        unfold splitE
        rw [if_pos, HL'.out]
        refine ⟨HG.out, by have := HL.out; have := HL'.out; omega, any_inS.2 ?_⟩
        have := hh.out
        rwa [List.take_of_length_le (by have := HL'.out; omega)] at this)
      go_wp2
      go_ret2
      rw [E.out]
      exact ⟨rfl, hB.out⟩

set_option maxHeartbeats 1000000 in
theorem s_SplitEnergy_yes (a b : Option Addr) (n c d : Nat) (s p : List Int) (w : World) (h : IntsAt w a n s) (h' : IntsAt w b n p) (hg : goodSizes s = true) :
    Calls Try.prog 47 #[.slice a n c, .slice b n d] w fun e w' => e = .returned (.tuple #[.int .i64 (splitE s p).1, .bool (splitE s p).2]) ∧ Below w.heap.size w w' := by
  have hg2 := goodSizes_iff.1 hg
  have hn : n ≤ 5 := by have := h.1; omega
  have H := hid h
  have H' := hid h'
  have HL := hid h.1
  have HL' := hid h'.1
  have HG := hid hg
  have HS := hid hg2.2
  clear h h' hg hg2
  go_enter Try.func47, Try.ntmps47
  go_wp2_with fail
  refine (s_l10Sizes _ _ _ s _ H.out (by omega)).mono ?_
  rintro e _ ⟨rfl, rfl⟩
  rw [HG.out]
  have HB1 := hid (Below.refl w.heap.size w)
  go_wp2
  go_loopg [6, 7] n (fun g t i wr => ∃ k : Nat, k ≤ n ∧ g = n - k ∧ i = .int .i64 k ∧ t = .int .i64 (cubes s p k) ∧ (0 ≤ cubes s p k ∧ cubes s p k ≤ 1944000 * (k : Int)) ∧ Hid (Below w.heap.size w wr) ∧ Hid (∀ x ∈ p.take k, 0 ≤ x ∧ x ≤ 60))
  case atStart => exact ⟨0, Nat.zero_le _, rfl, rfl, rfl, by simp [cubes], HB1, hid (fun x hx => by simp at hx)⟩
  case round =>
    obtain ⟨k, hk, rfl, rfl, rfl, hs, hB, hh⟩ := hrel
    by_cases hlt : k < n
    · obtain ⟨b1, off1, rfl, hbw1, hcell1⟩ := (H.out.below hB.out).2 k hlt
      obtain ⟨b2, off2, rfl, hbw2, hcell2⟩ := (H'.out.below hB.out).2 k hlt
      have hs1 := HS.out _ (getD_mem' (k := k) (by have := HL.out; omega))
      cases hx : inR (p[k]?.getD 0) 0 60
      · have HX := hid hx
        have E := hid (show splitE s p = (0, false) by
          unfold splitE
          rw [if_neg]
          rintro ⟨-, -, h3⟩
          have := any_inS.1 h3 _ (getD_mem' (k := k) (by have := HL'.out; omega))
          rw [inR_iff.2 this] at hx
          cases hx)
        clear hx
        go_wp2_with fail
        refine (s_l1In _ _ _ _).mono ?_
        rintro e _ ⟨rfl, rfl⟩
        rw [HX.out]
        go_wp2
        go_ret2
        rw [E.out]
        exact ⟨rfl, hB.out⟩
      · have HX := hid hx
        have hx2 := inR_iff.1 hx
        obtain ⟨f1, f2, f3⟩ := cube_fit hs1 hx2
        clear hx
        go_wp2_with fail
        refine (s_l1In _ _ _ _).mono ?_
        rintro e _ ⟨rfl, rfl⟩
        rw [HX.out]
        have HB := hid hB.out
        have hw := IntWalk.i64_in (cubes s p k + s[k]?.getD 0 * p[k]?.getD 0 * p[k]?.getD 0 * p[k]?.getD 0) (by omega)
        have X := hid (show Below w.heap.size w wr.drew ∧ wr.drew.cell? ⟨b1, off1 + k, none⟩ = some (.int .i64 (s[k]?.getD 0)) ∧ wr.drew.cell? ⟨b2, off2 + k, none⟩ = some (.int .i64 (p[k]?.getD 0)) from ⟨hB.out.drew, hcell1, hcell2⟩)
        clear hcell1 hcell2
        go_upto_region 9 with fail
        refine wp_region_calm (C := (fun w' => Below w.heap.size w w' ∧ w'.cell? ⟨b1, off1 + k, none⟩ = some (.int .i64 (s[k]?.getD 0)) ∧ w'.cell? ⟨b2, off2 + k, none⟩ = some (.int .i64 (p[k]?.getD 0)))) (by kernel_rfl) (by kernel_rfl) (X.out) ?_
        repeat
          first
            | go_big_quiet_skip
            | (go_big_quiet_want
               first
                 | (unfold Oper.quiet
                    apply Exists.intro
                    refine ⟨fun wq hq => ?_, ?_⟩
                    · (try dsimp only at hq
                       simp [go_sem, Oper.quietAt, Oper.quietUpon, BigFrame.eval_const, BigFrame.eval_global, BigFrame.eval_func, ↓IntWalk.iteOmega, *]
                       first | done | rfl | (refine calm_same hq (s_l10Cube _ _ _ hs1 hx2) rfl))
                    simp only [Act.put, List.setIfInBounds_toArray, List.set_cons_succ, List.set_cons_zero]
                    go_big_quiet_on))
        refine wpQuiet_nil ?_
        intro wc hcalm
        try dsimp only at hcalm
        have HB := hid hcalm.1
        clear hcalm hw
        go_wp2
        go_roundg (n - (k + 1))
        case rel =>
          refine ⟨k + 1, by omega, rfl, by go_num, by rw [cubes_succ], by rw [cubes_succ]; omega, HB, hid ?_⟩
          intro x hx
          rw [take_succ' p k (by have := HL'.out; omega), List.mem_append, List.mem_singleton] at hx
          rcases hx with hx | rfl
          · exact hh.out x hx
          · exact hx2
        case measure => omega
    · obtain rfl : k = n := by omega
      have E := hid (show splitE s p = (cubes s p k, true) by
        unfold splitE
        rw [if_pos, HL'.out]
        refine ⟨HG.out, by have := HL.out; have := HL'.out; omega, any_inS.2 ?_⟩
        have := hh.out
        rwa [List.take_of_length_le (by have := HL'.out; omega)] at this)
      go_wp2
      go_ret2
      rw [E.out]
      exact ⟨rfl, hB.out⟩

theorem i_SplitEnergy (a b : Option Addr) (n m c d : Nat) (s p : List Int) (w : World) (h : IntsAt w a n s) (h' : IntsAt w b m p) (hn : n ≤ 1048576) (hm : m ≤ 1048576) (x : Int) (y : Bool) (hR : splitE s p = (x, y)) :
    Calls Try.prog 49 #[.slice a n c, .slice b m d] w fun e w' => e = .returned (.tuple #[.int .i64 x, .bool y]) ∧ Below w.heap.size w w' := by
  by_cases hv : goodSizes s = true ∧ m = n
  · obtain ⟨h1, rfl⟩ := hv
    have := i_SplitEnergy_yes a b m c d s p w h h' h1
    rw [hR] at this
    exact this
  · have e : splitE s p = (0, false) := by
      unfold splitE
      rw [if_neg]
      rintro ⟨h1, h2, -⟩
      exact hv ⟨h1, by have := h.1; have := h'.1; omega⟩
    rw [e] at hR
    cases hR
    refine i_SplitEnergy_no a b n m c d s p w h h' hn hm ?_
    cases h1 : goodSizes s
    · exact .inl rfl
    · exact .inr fun e => hv ⟨h1, e⟩
theorem s_SplitEnergy (a b : Option Addr) (n m c d : Nat) (s p : List Int) (w : World) (h : IntsAt w a n s) (h' : IntsAt w b m p) (hn : n ≤ 1048576) (hm : m ≤ 1048576) (x : Int) (y : Bool) (hR : splitE s p = (x, y)) :
    Calls Try.prog 47 #[.slice a n c, .slice b m d] w fun e w' => e = .returned (.tuple #[.int .i64 x, .bool y]) ∧ Below w.heap.size w w' := by
  by_cases hv : goodSizes s = true ∧ m = n
  · obtain ⟨h1, rfl⟩ := hv
    have := s_SplitEnergy_yes a b m c d s p w h h' h1
    rw [hR] at this
    exact this
  · have e : splitE s p = (0, false) := by
      unfold splitE
      rw [if_neg]
      rintro ⟨h1, h2, -⟩
      exact hv ⟨h1, by have := h.1; have := h'.1; omega⟩
    rw [e] at hR
    cases hR
    refine s_SplitEnergy_no a b n m c d s p w h h' hn hm ?_
    cases h1 : goodSizes s
    · exact .inl rfl
    · exact .inr fun e => hv ⟨h1, e⟩

end Go.Proofs.Ytpmffboojkfpdaa

/-
  Small laws on slices of structs whose fields are all of one cell.
-/
set_option linter.unusedVariables false
set_option linter.unusedSimpArgs false
set_option linter.unusedSectionVars false
namespace Go.Proofs.Ytpmffboojkfpdaa
open Go.RowKit

theorem flat_len {α : Type} (f : α → List Value) (s : Nat) (hf : ∀ x, (f x).length = s) : ∀ l : List α, (l.flatMap f).length = l.length * s
  | [] => by simp
  | x :: r => by simp only [List.flatMap_cons, List.length_append, hf, flat_len f s hf r, List.length_cons]; rw [Nat.add_mul]; omega

theorem flat_get {α : Type} (f : α → List Value) (s : Nat) (hf : ∀ x, (f x).length = s) : ∀ (l : List α) (k j : Nat) (hk : k < l.length), j < s → (l.flatMap f)[k * s + j]? = (f l[k])[j]?
  | [], k, j, hk, hj => by simp at hk
  | x :: r, 0, j, hk, hj => by
    simp only [List.flatMap_cons, Nat.zero_mul, Nat.zero_add, List.getElem_cons_zero]
    rw [List.getElem?_append_left (by rw [hf]; exact hj)]
  | x :: r, k + 1, j, hk, hj => by
    simp only [List.flatMap_cons, List.getElem_cons_succ]
    rw [List.getElem?_append_right (by rw [hf, Nat.add_mul]; omega), hf]
    rw [show (k + 1) * s + j - s = k * s + j from by rw [Nat.add_mul]; omega]
    exact flat_get f s hf r k j (by simpa using hk) hj

theorem flat_set {α : Type} (f : α → List Value) (s : Nat) (hf : ∀ x, (f x).length = s) : ∀ (l : List α) (k j : Nat) (hk : k < l.length) (y : α) (v : Value), j < s → f y = (f l[k]).set j v → (l.flatMap f).set (k * s + j) v = (l.set k y).flatMap f
  | [], k, j, hk, y, v, hj, h => by simp at hk
  | x :: r, 0, j, hk, y, v, hj, h => by
    simp only [List.flatMap_cons, Nat.zero_mul, Nat.zero_add, List.set_cons_zero]
    rw [List.set_append_left _ _ (by rw [hf]; exact hj), h]; rfl
  | x :: r, k + 1, j, hk, y, v, hj, h => by
    simp only [List.flatMap_cons, List.set_cons_succ]
    rw [List.set_append_right _ _ (by rw [hf, Nat.add_mul]; omega), hf]
    rw [show (k + 1) * s + j - s = k * s + j from by rw [Nat.add_mul]; omega]
    rw [flat_set f s hf r k j (by simpa using hk) y v hj (by simpa using h)]

/-- A slice of structs that can be read. -/
def SAt {α : Type} [Inhabited α] (f : α → List Value) (s : Nat) (w : World) (a : Option Addr) (n : Nat) (l : List α) : Prop :=
  l.length = n ∧ ∀ k, k < n → ∃ b off, a = some ⟨b, off, none⟩ ∧ b < w.heap.size ∧ ∀ j, j < s → w.cell? ⟨b, off + k * s + j, none⟩ = (f (l[k]?.getD default))[j]?

section
variable {α : Type} [Inhabited α] {f : α → List Value} {s : Nat} {w w' : World} {a : Option Addr} {n : Nat} {l : List α}

theorem SAt.below (h : SAt f s w a n l) (hb : Below w.heap.size w w') : SAt f s w' a n l :=
  ⟨h.1, fun k hk => let ⟨b, off, h1, h2, h3⟩ := h.2 k hk; ⟨b, off, h1, Nat.lt_of_lt_of_le h2 hb.size, fun j hj => (hb.cell (p := ⟨b, off + k * s + j, none⟩) h2).trans (h3 j hj)⟩⟩

theorem SAt.nil (w : World) (a : Option Addr) : SAt f s w a 0 [] := ⟨rfl, fun k hk => absurd hk (by omega)⟩

/-- A slice of structs of the call's own. -/
def OwnS (f : α → List Value) (s : Nat) (e : TypeId) (w : World) (B : Nat) (v : Value) (l : List α) : Prop := w.ownsRow B e s v l.length (l.flatMap f)

variable {e : TypeId} {B : Nat} {v : Value}

theorem OwnS.form (h : OwnS f s e w B v l) : ∃ a c, v = .slice a l.length c := by
  rcases h.2 with ⟨rfl, h0⟩ | ⟨g, cap, cur, rfl, _⟩
  · exact ⟨none, 0, by rw [h0]⟩
  · exact ⟨_, _, rfl⟩

theorem OwnS.at {c : Nat} (hf : ∀ x, (f x).length = s) (h : OwnS f s e w B (.slice a n c) l) : SAt f s w a n l := by
  have h' := h
  unfold OwnS at h
  rcases h.2 with ⟨h1, h0⟩ | ⟨g, cap, cur, h1, hB, hg, hnc, hm, hs, ht⟩
  · simp only [Value.slice.injEq] at h1
    obtain ⟨rfl, rfl, rfl⟩ := h1
    have : l = [] := List.eq_nil_of_length_eq_zero h0
    subst this
    exact SAt.nil _ _
  · simp only [Value.slice.injEq] at h1
    obtain ⟨rfl, rfl, rfl⟩ := h1
    refine ⟨rfl, fun k hk => ⟨g, 0, rfl, (Array.getElem?_eq_some_iff.1 hg).1, fun j hj => ?_⟩⟩
    have hlt : k * s + j < l.length * s := by
      have : (k + 1) * s ≤ l.length * s := Nat.mul_le_mul_right s hk
      rw [Nat.add_mul] at this; omega
    have := World.ownsRow.cellAt h' (k * s + j) hlt
    rw [Nat.zero_add, this, flat_get f s hf l k j hk hj, List.getElem?_eq_getElem hk]
    rfl

theorem OwnS.len {c : Nat} (h : OwnS f s e w B (.slice a n c) l) : l.length = n := by
  obtain ⟨a', c', hv⟩ := h.form
  simp only [Value.slice.injEq] at hv
  exact hv.2.1.symm

theorem OwnS.below (h : OwnS f s e w B v l) (hb : Below w.heap.size w w') : OwnS f s e w' B v l := by
  refine ⟨h.1, ?_⟩
  rcases h.2 with h2 | ⟨g, cap, cur, hv, hg, hh, r⟩
  · exact Or.inl h2
  · exact Or.inr ⟨g, cap, cur, hv, hg, by rw [hb.block g (Array.getElem?_eq_some_iff.1 hh).1]; exact hh, r⟩

theorem OwnS.mono {B' : Nat} (h : OwnS f s e w B v l) (hb : B' ≤ B) : OwnS f s e w B' v l := by
  refine ⟨h.1, ?_⟩
  rcases h.2 with h2 | ⟨g, cap, cur, hv, hg, r⟩
  · exact Or.inl h2
  · exact Or.inr ⟨g, cap, cur, hv, Nat.le_trans hb hg, r⟩

theorem OwnS.lt (h : OwnS f s e w B v l) : ∀ k, v.ownBlock = some k → B ≤ k ∧ k < w.heap.size := World.ownsRow.lt h
theorem OwnS.kept {row : Option Nat} (h : OwnS f s e w B v l) (hg : w.grownBy w' row) (hne : v.ownBlock = none ∨ v.ownBlock ≠ row) : OwnS f s e w' B v l := World.ownsRow.kept h hg hne
theorem OwnS.alloc (h : OwnS f s e w B v l) (o : Obj) : OwnS f s e (w.alloc o) B v l := World.ownsRow.alloc h o
theorem OwnS.lit0 (w : World) : OwnS f s e (w.alloc (.cells #[] e)) w.heap.size (.slice (some ⟨w.heap.size, 0, none⟩) 0 0) ([] : List α) :=
  World.ownsRow_lit w #[] 0 (Nat.le_refl _) (Nat.zero_le _) (by simp)
theorem OwnS.nil (w : World) (B : Nat) : OwnS f s e w B (.slice none 0 0) ([] : List α) := World.ownsRow_nil _ _ _ _

theorem OwnS.row {c : Nat} (h : OwnS f s e w B (.slice a n c) l) : w.ownsRow B e s (.slice a n c) n (l.flatMap f) := by
  have e' := h.len; unfold OwnS at h; rw [e'] at h; exact h

theorem OwnS.of_row (hf : ∀ x, (f x).length = s) (hs : 0 < s) (h : w.ownsRow B e s v n (l.flatMap f)) : OwnS f s e w B v l := by
  have e' : n = l.length := by
    have := h.1
    rw [flat_len f s hf] at this
    exact (Nat.eq_of_mul_eq_mul_right hs this).symm
  subst e'; exact h

theorem OwnS.frozen {g j c : Nat} (h : OwnS f s e w B (.slice (some ⟨g, 0, none⟩) n c) l) : w.frozen? ⟨g, j, none⟩ = false := World.ownsRow.frozenAt h.row j

/-- a store into field j of element k -/
theorem OwnS.set {g k j c : Nat} (hf : ∀ x, (f x).length = s) (hs : 0 < s) (h : OwnS f s e w B (.slice (some ⟨g, 0, none⟩) n c) l) (hk : k < n) (hj : j < s) (u : Value) (y : α) (hy : f y = (f (l[k]?.getD default)).set j u) :
    OwnS f s e (w.setCell ⟨g, k * s + j, none⟩ u) B (.slice (some ⟨g, 0, none⟩) n c) (l.set k y) ∧ w.grownBy (w.setCell ⟨g, k * s + j, none⟩ u) (some g) := by
  obtain ⟨h1, h2⟩ := World.ownsRow.stored h.row (k * s + j) u
  have hl := h.len
  refine ⟨OwnS.of_row hf hs (n := n) ?_, h2⟩
  rw [← flat_set f s hf l k j (by omega) y u hj (by rw [List.getElem?_eq_getElem (by omega)] at hy; exact hy)]
  exact h1

theorem SAt.cells (hf : ∀ x, (f x).length = s) (h1 : ∀ x, ∀ u ∈ f x, u.oneCell' = true) (h : SAt f s w a n l) : CellsAt w a n s (l.flatMap f) := by
  refine ⟨by rw [flat_len f s hf, h.1], ?_, ?_, ?_⟩
  · intro ha
    by_cases hn : n = 0
    · exact hn
    · obtain ⟨b, off, h1, _⟩ := h.2 0 (by omega)
      rw [ha] at h1; cases h1
  · intro ad ha j u hu
    have hlen : (l.flatMap f).length = n * s := by rw [flat_len f s hf, h.1]
    have hj : j < n * s := by
      have := (List.getElem?_eq_some_iff.1 hu).1
      omega
    have hs : 0 < s := by
      rcases Nat.eq_zero_or_pos s with e | e
      · subst e; simp at hj
      · exact e
    have hk : j / s < n := (Nat.div_lt_iff_lt_mul hs).2 hj
    have hm : j % s < s := Nat.mod_lt _ hs
    obtain ⟨b, off, h1, h2, h3⟩ := h.2 (j / s) hk
    rw [ha] at h1; cases h1
    have e1 : j / s * s + j % s = j := by rw [Nat.mul_comm]; exact Nat.div_add_mod j s
    have h4 := h3 (j % s) hm
    rw [Nat.add_assoc, e1] at h4
    rw [addr_add, h4]
    have h5 := flat_get f s hf l (j / s) (j % s) (by rw [h.1]; exact hk) hm
    rw [e1, hu] at h5
    have h6 : l[j / s]?.getD default = l[j / s]'(by rw [h.1]; exact hk) := by rw [List.getElem?_eq_getElem (by rw [h.1]; exact hk)]; rfl
    rw [h6]
    exact h5.symm
  · intro u hu
    obtain ⟨x, _, hx⟩ := List.mem_flatMap.1 hu
    exact h1 x u hx

theorem SAt.single (w : World) (x : α) (hf : ∀ x, (f x).length = s) : SAt f s (w.alloc (.cells (f x).toArray e)) (some ⟨w.heap.size, 0, none⟩) 1 [x] := by
  refine ⟨rfl, fun k hk => ⟨w.heap.size, 0, rfl, by simp, fun j hj => ?_⟩⟩
  obtain rfl : k = 0 := by omega
  rw [World.cell?_alloc_at _ _ _ _ rfl]; simp
end

/-- The cells of one struct, stored one by one. -/
def setCellsFrom (w : World) (b : Nat) (off : Nat) : List Value → World
  | [] => w
  | v :: r => setCellsFrom (w.setCell ⟨b, off, none⟩ v) b (off + 1) r
def setFrom (L : List Value) (off : Nat) : List Value → List Value
  | [] => L
  | v :: r => setFrom (L.set off v) (off + 1) r

theorem setFrom_mid : ∀ (vs P A R : List Value), A.length = vs.length → setFrom (P ++ (A ++ R)) P.length vs = P ++ (vs ++ R)
  | [], P, A, R, h => by
    have : A = [] := List.eq_nil_of_length_eq_zero h
    subst this; rfl
  | v :: r, P, [], R, h => by simp at h
  | v :: r, P, x :: A, R, h => by
    have e : (P ++ (x :: A ++ R)).set P.length v = (P ++ [v]) ++ (A ++ R) := by
      rw [List.set_append_right _ _ (Nat.le_refl _)]; simp
    have := setFrom_mid r (P ++ [v]) A R (by simpa using h)
    rw [List.length_append] at this
    rw [setFrom, e]
    rw [show P.length + 1 = P.length + [v].length from rfl, this]; simp

theorem flat_setAll {α : Type} (f : α → List Value) (s : Nat) (hf : ∀ x, (f x).length = s) (l : List α) (k : Nat) (hk : k < l.length) (y : α) : setFrom (l.flatMap f) (k * s) (f y) = (l.set k y).flatMap f := by
  have e : l = l.take k ++ (l[k] :: l.drop (k + 1)) := by rw [← List.drop_eq_getElem_cons hk, List.take_append_drop]
  have e2 : l.set k y = l.take k ++ (y :: l.drop (k + 1)) := by rw [List.set_eq_take_append_cons_drop, if_pos hk]
  have e3 : l.flatMap f = (l.take k).flatMap f ++ (f l[k] ++ (l.drop (k + 1)).flatMap f) := by
    conv => lhs; rw [e]
    rw [List.flatMap_append, List.flatMap_cons]
  have e4 : ((l.take k).flatMap f).length = k * s := by rw [flat_len f s hf, List.length_take, Nat.min_eq_left (by omega)]
  rw [e2, List.flatMap_append, List.flatMap_cons, e3, ← e4]
  exact setFrom_mid _ _ _ _ (by rw [hf, hf])

theorem madeFlat {α : Type} (f : α → List Value) (s : Nat) (hf : ∀ x, (f x).length = s) (hs : 0 < s) (x : α) (z : Array Value) (hz : z.toList = f x) (n : Nat) : (madeCells z (n * s)).toList = (List.replicate n x).flatMap f := by
  have hzs : z.size = s := by rw [← Array.length_toList, hz, hf]
  apply List.ext_getElem?
  intro i
  by_cases hi : i < n * s
  · have hk : i / s < n := (Nat.div_lt_iff_lt_mul hs).2 hi
    have hm : i % s < s := Nat.mod_lt _ hs
    have h5 := flat_get f s hf (List.replicate n x) (i / s) (i % s) (by simpa using hk) hm
    have e1 : i / s * s + i % s = i := by rw [Nat.mul_comm]; exact Nat.div_add_mod i s
    rw [e1, List.getElem_replicate] at h5
    rw [h5, ← hz]
    simp only [madeCells, Array.toList_map, List.getElem?_map, Array.getElem?_toList]
    rw [Array.getElem?_eq_getElem (by simpa using hi), Array.getElem?_eq_getElem (by rw [hzs]; exact hm)]
    simp only [Option.map_some, Array.getElem_range, hzs]
    rw [getElem!_pos _ _ (by rw [hzs]; exact hm)]
  · rw [List.getElem?_eq_none (by simp [size_madeCells]; omega), List.getElem?_eq_none (by rw [flat_len f s hf]; simp; omega)]

section
variable {α : Type} [Inhabited α] {f : α → List Value} {s : Nat} {e : TypeId}
theorem rowFrom {B g n c : Nat} : ∀ (vs : List Value) (w : World) (L : List Value) (off : Nat), w.ownsRow B e s (.slice (some ⟨g, 0, none⟩) n c) n L → (setCellsFrom w g off vs).ownsRow B e s (.slice (some ⟨g, 0, none⟩) n c) n (setFrom L off vs) ∧ w.grownBy (setCellsFrom w g off vs) (some g)
  | [], w, L, off, h => ⟨h, World.grownBy.refl _ _⟩
  | v :: r, w, L, off, h => by
    obtain ⟨h1, h2⟩ := World.ownsRow.stored h off v
    obtain ⟨h3, h4⟩ := rowFrom r _ _ (off + 1) h1
    exact ⟨h3, grownBy_trans h2 h4⟩

/-- a store of a whole struct at element k -/
theorem OwnS.setAll {w : World} {B g k n c : Nat} {l : List α} (hf : ∀ x, (f x).length = s) (hs : 0 < s) (h : OwnS f s e w B (.slice (some ⟨g, 0, none⟩) n c) l) (hk : k < n) (y : α) :
    OwnS f s e (setCellsFrom w g (k * s) (f y)) B (.slice (some ⟨g, 0, none⟩) n c) (l.set k y) ∧ w.grownBy (setCellsFrom w g (k * s) (f y)) (some g) := by
  obtain ⟨h1, h2⟩ := rowFrom (f y) w _ (k * s) h.row
  refine ⟨OwnS.of_row hf hs (n := n) ?_, h2⟩
  rw [← flat_setAll f s hf l k (by have := h.len; omega) y]
  exact h1

theorem takeS {l : List α} (k : Nat) (hk : k < l.length) : l.take (k + 1) = l.take k ++ [l[k]?.getD default] := by
  rw [List.take_add_one, List.getElem?_eq_getElem hk]; rfl
theorem take_setS {l l' : List α} {k n : Nat} (hl : l.length = n) (hl' : l'.length = n) (hk : k < n) (e : l'.take k = l.take k) : (l'.set k (l[k]?.getD default)).take (k + 1) = l.take (k + 1) := by
  rw [takeS (l := l) k (by omega), takeS (l := l'.set k _) k (by rw [List.length_set]; omega), List.take_set, List.getElem?_set_self (by omega), ← e, List.set_eq_of_length_le (by rw [List.length_take]; omega)]
  rfl
end

theorem wp_append_s {α : Type} [Inhabited α] {f : α → List Value} {s : Nat} {ops : Array Oper} {rest : List Oper} {o : Oper} {a : Act} {Q : Exit → Act → World → Prop} (w : World) (hgd : o.guard = none) (so x : Operand) (t : TypeId)
    (ho : o.op = .call { callee := .builtin .append, args := #[so, x], argTypes := #[t, t] })
    (e : TypeId) (i : TypeInfo) (z : Value) (bytes : Nat) (ht : Try.prog.underlying t = some (.slice e)) (hi : Try.prog.info? e = some i) (hz : i.zero = some z) (hsize : i.size = s) (hby : i.bytes = bytes) (hzs : z.cells.size = s) (hs0 : 0 < s)
    (hf : ∀ x, (f x).length = s) (hone : ∀ x, ∀ u ∈ f x, u.oneCell' = true)
    (B : Nat) (v : Value) (l : List α) (hs : a.eval so = v) (hown : OwnS f s e w B v l)
    (ax : Option Addr) (m c : Nat) (l2 : List α) (hx : a.eval x = .slice ax m c) (hat : SAt f s w ax m l2)
    (N : Nat) (hN : l.length + m = N) (hb : N ≤ 1099511627776) (hbb : bytes ≤ 64) (hB : B ≤ w.heap.size)
    (h : ∀ a' c' w', OwnS f s e w' B (.slice a' N c') (l ++ l2) → w.grownBy w' v.ownBlock → (Value.ownBlock (.slice a' N c') = v.ownBlock ∨ Value.ownBlock (.slice a' N c') = some w.heap.size) → wpList Try.prog ops Q rest (a.put o.dst (.slice a' N c')) w') : wpList Try.prog ops Q (o :: rest) a w := by
  have hmul : (l.length + m) * bytes ≤ 140737488355328 := by
    have : (l.length + m) * bytes ≤ 1099511627776 * 64 := Nat.mul_le_mul (by omega) hbb
    omega
  refine wp_append_cells w hgd so x t ho B e i z s bytes ht hi hz hsize hby hzs hs0 v l.length _ hs hown ax m c _ hx (hat.cells hf hone) (by unfold maxLen; omega) hmul hB ?_
  intro v' w' h1 h2 h3
  have ho : OwnS f s e w' B v' (l ++ l2) := OwnS.of_row hf hs0 (n := l.length + m) (by rw [List.flatMap_append]; exact h1)
  obtain ⟨a', c', rfl⟩ := ho.form
  have e' : (l ++ l2).length = N := by rw [List.length_append, hat.1]; exact hN
  rw [e'] at ho h3 ⊢
  exact h a' c' w' ho h2 h3

end Go.Proofs.Ytpmffboojkfpdaa

/-
  The table of leastS sums, as it lies in memory.
-/
set_option linter.unusedVariables false
set_option linter.unusedSimpArgs false
namespace Go.Proofs.Ytpmffboojkfpdaa
open Go.RowKit

/-- A row of a slice of slices: its value. -/
abbrev VRow := Option Addr × Nat × Nat
def vf (r : VRow) : List Value := [.slice r.1 r.2.1 r.2.2]
theorem vf_len (r : VRow) : (vf r).length = 1 := rfl
theorem Try.infoInts : (Try.prog.info? 22).map (fun i => (i.zero, i.size, i.bytes)) = some (some (.slice none 0 0), 1, 24) := by kernel_rfl

theorem cell_far {w w' : World} {row : Option Nat} {b o : Nat} (hg : w.grownBy w' row) (hb : b < w.heap.size) (hr : some b ≠ row) : w'.cell? ⟨b, o, none⟩ = w.cell? ⟨b, o, none⟩ := by
  unfold World.cell?
  rw [hg.block b hb hr]

/-- The rows from k on are filled. -/
structure Tab (w wr : World) (Zb g N T n t : Nat) (S : List Int) (k : Nat) : Prop where
  out : ∃ R : List VRow, OwnS vf 1 22 wr w.heap.size (.slice (some ⟨g, 0, none⟩) N N) R
  gz : g < Zb
  zs : Zb ≤ wr.heap.size
  rows : ∀ j, k ≤ j → j ≤ n → ∃ b, b < Zb ∧ b ≠ g ∧ wr.cell? ⟨g, j, none⟩ = some (.slice (some ⟨b, 0, none⟩) T T) ∧ ∀ a, a ≤ t → wr.cell? ⟨b, a, none⟩ = some (.int .i64 (leastS (S.drop j) a))
  bel : Below w.heap.size w wr
theorem Tab.kept {w wr w' : World} {Zb g N T n t k : Nat} {S : List Int} {row : Option Nat} (h : Tab w wr Zb g N T n t S k) (hg : wr.grownBy w' row) (hr : ∀ q, row = some q → Zb ≤ q) (hw : ∀ q, row = some q → w.heap.size ≤ q) : Tab w w' Zb g N T n t S k := by
  have hgz := h.gz
  have hzs := h.zs
  obtain ⟨R, ho⟩ := h.out
  have hne : ∀ b, b < Zb → some b ≠ row := fun b hb e => by have := hr b e.symm; omega
  refine ⟨⟨R, ho.kept hg (.inr (hne g hgz))⟩, hgz, Nat.le_trans hzs hg.size, fun j hj hn => ?_, h.bel.grown hg h.bel.size hw⟩
  obtain ⟨b, b1, b2, b3, b4⟩ := h.rows j hj hn
  exact ⟨b, b1, b2, (cell_far hg (by omega) (hne g hgz)).trans b3, fun a ha => (cell_far hg (by omega) (hne b b1)).trans (b4 a ha)⟩
theorem Tab.below {w wr w' : World} {Zb g N T n t k : Nat} {S : List Int} (h : Tab w wr Zb g N T n t S k) (hb : Below wr.heap.size wr w') : Tab w w' Zb g N T n t S k :=
  h.kept (grown_of_below hb none) (fun q e => by cases e) (fun q e => by cases e)
theorem Tab.le {w wr : World} {Zb Zc g N T n t k : Nat} {S : List Int} (h : Tab w wr Zb g N T n t S k) (h1 : Zb ≤ Zc) (h2 : Zc ≤ wr.heap.size) : Tab w wr Zc g N T n t S k :=
  ⟨h.out, by have := h.gz; omega, h2, fun j hj hn => let ⟨b, b1, b2⟩ := h.rows j hj hn; ⟨b, by omega, b2⟩, h.bel⟩
theorem Tab.cell0 {w wr : World} {Zb g N T n t k : Nat} {S : List Int} (h : Tab w wr Zb g N T n t S k) {j : Nat} (hj : j < N) : (∃ v, wr.cell? ⟨g, j, none⟩ = some v) ∧ wr.frozen? ⟨g, j, none⟩ = false := by
  obtain ⟨R, ho⟩ := h.out
  refine ⟨?_, OwnS.frozen ho⟩
  obtain ⟨b', o', e', -, y⟩ := (OwnS.at vf_len ho).2 j hj
  simp only [Option.some.injEq, Addr.mk.injEq, and_true] at e'
  obtain ⟨rfl, rfl⟩ := e'
  have := y 0 (by decide)
  simp only [Nat.mul_one, Nat.add_zero, Nat.zero_add] at this
  exact ⟨_, this⟩

/-- The row of block Z is being filled. -/
structure Fill (w wr : World) (Z g N T n t : Nat) (S : List Int) (i : Nat) (l : List Int) : Prop where
  tab : Tab w wr Z g N T n t S (i + 1)
  cur : wr.cell? ⟨g, i, none⟩ = some (.slice (some ⟨Z, 0, none⟩) T T)
  own : OwnI wr Z (.slice (some ⟨Z, 0, none⟩) T T) l
theorem Fill.step {w wr w' : World} {Z g N T n t i : Nat} {S l l' : List Int} (h : Fill w wr Z g N T n t S i l) (hg : wr.grownBy w' (some Z)) (ho : OwnI w' Z (.slice (some ⟨Z, 0, none⟩) T T) l') : Fill w w' Z g N T n t S i l' := by
  have h1 := h.tab.gz
  have h2 := h.tab.zs
  refine ⟨h.tab.kept hg (fun q e => by cases e; exact Nat.le_refl _) (fun q e => by
    cases e
    obtain ⟨R, hr⟩ := h.tab.out
    have h9 : w.heap.size ≤ g := (OwnS.lt hr g rfl).1
    omega), ?_, ho⟩
  exact (cell_far hg (by omega) (fun e => by have := Option.some.inj e; omega)).trans h.cur
theorem Fill.set {w wr : World} {Z g N T n t i : Nat} {S l : List Int} (h : Fill w wr Z g N T n t S i l) (a : Nat) (x : Int) : Fill w (wr.setCell ⟨Z, a, none⟩ (.int .i64 x)) Z g N T n t S i (l.set a x) :=
  h.step (h.own.set (k := a) x).2 (h.own.set (k := a) x).1
theorem Fill.below {w wr w' : World} {Z g N T n t i : Nat} {S l : List Int} (h : Fill w wr Z g N T n t S i l) (hb : Below wr.heap.size wr w') : Fill w w' Z g N T n t S i l :=
  h.step (grown_of_below hb _) (h.own.below hb)
theorem Fill.done {w wr : World} {Z g N T n t i : Nat} {S l : List Int} (h : Fill w wr Z g N T n t S i l) (hT : t + 1 = T) (hl : ∀ a, a < T → l[a]?.getD 0 = leastS (S.drop i) a) : Tab w wr (Z + 1) g N T n t S i := by
  have hz := (h.own.lt Z rfl).2
  have h1 := h.tab.gz
  refine ⟨h.tab.out, by omega, by omega, fun j hj hn => ?_, h.tab.bel⟩
  by_cases e : j = i
  · subst e
    exact ⟨Z, by omega, by omega, h.cur, fun a ha => by rw [h.own.cell (k := a) (by omega), hl a (by omega)]⟩
  · obtain ⟨b, b1, b2, b3⟩ := h.tab.rows j (by omega) hn
    exact ⟨b, by omega, b2, b3⟩
/-- The header of a new row is stored. -/
theorem Tab.put {w wr : World} {Zb Z g N T n t i : Nat} {S l : List Int} (h : Tab w wr Zb g N T n t S (i + 1)) (hi : i < N) (hz : Zb ≤ Z) (ho : OwnI wr Z (.slice (some ⟨Z, 0, none⟩) T T) l) : Fill w (wr.setCell ⟨g, i, none⟩ (.slice (some ⟨Z, 0, none⟩) T T)) Z g N T n t S i l := by
  have h1 := h.gz
  have h2 := h.zs
  have hzz := (ho.lt Z rfl).2
  obtain ⟨R, hr⟩ := h.out
  have hlw : w.heap.size ≤ g := (OwnS.lt hr g rfl).1
  have hzg : Z ≠ g := by omega
  obtain ⟨o1, g1⟩ := OwnS.set vf_len (by decide) hr hi (j := 0) (by decide) (.slice (some ⟨Z, 0, none⟩) T T) ((some ⟨Z, 0, none⟩, T, T) : VRow) rfl
  simp only [Nat.mul_one, Nat.add_zero] at o1 g1
  refine ⟨⟨⟨_, o1⟩, by omega, by have := g1.size; omega, fun j hj hn => ?_, h.bel.grown g1 h.bel.size (fun q e => by cases e; exact hlw)⟩, ?_, ho.kept g1 (.inr (fun e => hzg (Option.some.inj e)))⟩
  · obtain ⟨b, b1, b2, b3, b4⟩ := h.rows j hj hn
    refine ⟨b, by omega, b2, ?_, fun a ha => (cell_far g1 (by omega) (fun e => b2 (Option.some.inj e))).trans (b4 a ha)⟩
    rw [← b3]
    exact World.cell?_setCell_other _ _ _ _ (fun e => by have := congrArg Addr.off e; simp at this; omega)
  · obtain ⟨v, hv⟩ := (h.cell0 hi).1
    exact World.cell?_setCell_same _ _ _ hv

end Go.Proofs.Ytpmffboojkfpdaa

