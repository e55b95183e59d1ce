/-
  Profiles: which are valid, and the numbers of their hours.
-/
import Derived.Test.YtpmffboojkfpdaaFuncs
import Derived.Test.YtpmffboojkfpdaaNums
import Derived.Test.YtpmffboojkfpdaaMem
set_option linter.unusedVariables false
set_option linter.unusedSimpArgs false
namespace Go.Proofs.Ytpmffboojkfpdaa
open Go.RowKit

/-- A valid list of percentages. -/
def goodProf (l : List Int) : Bool := decide (l.length = 24) && !l.any (fun x => !inR x 0 1000) && decide (l.sum = 2400)
theorem any_inR {l : List Int} {lo hi : Int} : (l.any fun x => !inR x lo hi) = false ↔ ∀ x ∈ l, lo ≤ x ∧ x ≤ hi := by
  rw [List.any_eq_false]
  constructor
  · intro h x hx
    have := h x hx
    simp only [Bool.not_eq_true, Bool.not_eq_false'] at this
    exact inR_iff.1 this
  · intro h x hx
    simp [inR_iff.2 (h x hx)]
theorem goodProf_iff {l : List Int} : goodProf l = true ↔ l.length = 24 ∧ (∀ x ∈ l, 0 ≤ x ∧ x ≤ 1000) ∧ l.sum = 2400 := by
  simp only [goodProf, Bool.and_eq_true, decide_eq_true_eq, Bool.not_eq_true', any_inR, and_assoc]

theorem enters_IsValidProfile : enters 89 := by intro args w; kernel_rfl
theorem i_IsValidProfile1 (x : Int) (w : World) : Calls Try.prog 89 #[.int .i64 x] w fun e w' => e = .returned (.bool (!inR x 0 1000)) ∧ Below w.heap.size w w' := by
  go_enter Try.func89, Try.ntmps89
  go_wp2_with fail
  refine (i_inside _ _ _ _).mono ?_
  rintro e w' ⟨rfl, rfl⟩
  go_wp2
  go_ret
  exact ⟨rfl, by go_grown⟩

theorem i_IsValidProfile (a : Option Addr) (n c : Nat) (l : List Int) (w : World) (h : IntsAt w a n l) (hn : n ≤ 1048576) :
    Calls Try.prog 32 #[.agg #[.slice a n c]] w fun e w' => e = .returned (.bool (goodProf l)) ∧ Below w.heap.size w w' := by
  have hl := h.1
  have H := hid h
  clear h
  by_cases h1 : n = 24
  · cases h2 : l.any (fun x => !inR x 0 1000)
    · have hv := any_inR.1 h2
      have HV := hid (show ∀ x ∈ l, -1000000000000 ≤ x ∧ x ≤ 1000000000000 from fun x hx => by have := hv x hx; omega)
      have E := hid (show decide (l.sum = 2400) = goodProf l by simp [goodProf, h2, hl, h1])
      have H2 := hid h2
      clear h2 hv
      subst h1
      go_enter Try.func32, Try.ntmps32
      go_wp2_with fail
      refine (f_ContainsFunc 89 #[] (fun x => !inR x 0 1000) enters_IsValidProfile a 24 c l _ (H.out.below (by go_grown)) (by omega) (fun x w' _ _ => i_IsValidProfile1 x w')).mono ?_
      rintro e w1 ⟨rfl, hb1⟩
      rw [H2.out]
      obtain ⟨hc1, hf1⟩ := bcell hb1
      have hz := hb1.size
      simp only [World.size_alloc] at hz
      have hz0 : w.heap.size < w1.heap.size := by omega
      go_wp2_with fail
      refine (i_sumInts _ _ _ l _ (H.out.below (bstep (by go_grown) hb1)) (by omega) HV.out).mono ?_
      rintro e _ ⟨rfl, rfl⟩
      go_wp2
      go_ret
      refine ⟨ret_bool ?_, bstep (by go_grown) hb1⟩
      rw [← E.out]
      exact Bool.eq_iff_iff.2 (by simp)
    · have E := hid (show false = goodProf l by simp [goodProf, h2])
      have H2 := hid h2
      clear h2
      subst h1
      go_enter Try.func32, Try.ntmps32
      go_wp2_with fail
      refine (f_ContainsFunc 89 #[] (fun x => !inR x 0 1000) enters_IsValidProfile a 24 c l _ (H.out.below (by go_grown)) (by omega) (fun x w' _ _ => i_IsValidProfile1 x w')).mono ?_
      rintro e w1 ⟨rfl, hb1⟩
      rw [H2.out]
      go_wp2
      go_ret
      exact ⟨ret_bool E.out, bstep (by go_grown) hb1⟩
  · have E := hid (show false = goodProf l by simp [goodProf, hl, h1])
    clear hl
    go_enter Try.func32, Try.ntmps32
    go_wp2
    go_ret
    exact ⟨ret_bool E.out, by go_grown⟩

theorem take_mem_succ {l : List Int} {k : Nat} {p : Int → Prop} (hk : k < l.length) (h : ∀ x ∈ l.take k, p x) (hp : p (l[k]?.getD 0)) : ∀ x ∈ l.take (k + 1), p x := by
  intro x hx
  rw [take_succ' l k hk, List.mem_append, List.mem_singleton] at hx
  rcases hx with hx | rfl
  · exact h x hx
  · exact hp

set_option maxHeartbeats 1000000 in
theorem s_l6Good (a : Option Addr) (n c : Nat) (l : List Int) (w : World) (h : IntsAt w a n l) (hn : n ≤ 1048576) :
    Calls Try.prog 67 #[.agg #[.slice a n c]] w fun e w' => e = .returned (.bool (goodProf l)) ∧ Below w.heap.size w w' := by
  have H := hid h
  have HL := hid h.1
  clear h
  go_enter Try.func67, Try.ntmps67
  go_wp2
  go_loopg [3, 4] n (fun g s i wr => ∃ k : Nat, k ≤ n ∧ g = n - k ∧ i = .int .i64 k ∧ s = .int .i64 ((l.take k).sum) ∧ wr = w.alloc (.cells #[.slice a n c] 26) ∧ Hid (∀ x ∈ l.take k, 0 ≤ x ∧ x ≤ 1000))
  case atStart => exact ⟨0, Nat.zero_le _, rfl, rfl, rfl, rfl, hid (fun x hx => by simp at hx)⟩
  case round =>
    obtain ⟨k, hk, rfl, rfl, rfl, rfl, hh⟩ := hrel
    have hb1 := sum_fit (B := 1000) (by decide) hh.out
    have hlen : (l.take k).length = k := by rw [List.length_take]; have := HL.out; omega
    rw [hlen] at hb1
    clear hlen
    by_cases hlt : k < n
    · obtain ⟨b, off, rfl, hbw, hcell⟩ := (H.out.below ((Below.refl _ _).alloc (Nat.le_refl _) (.cells #[.slice a n c] 26))).2 k hlt
      cases hx : inR (l[k]?.getD 0) 0 1000
      · have HX := hid hx
        clear hx
        go_wp2_with fail
        refine (s_l1In _ _ _ _).mono ?_
        rintro e _ ⟨rfl, rfl⟩
        rw [HX.out]
        go_wp2
        go_ret
        refine ⟨ret_bool ?_, by go_grown⟩
        have : goodProf l ≠ true := fun e => by
          have h2 := (goodProf_iff.1 e).2.1 _ (getD_mem' (k := k) (by have := HL.out; omega))
          rw [inR_iff.2 h2] at HX
          exact absurd HX.out (by simp)
        simpa using this.symm
      · have HX := hid hx
        have hx2 := inR_iff.1 hx
        clear hx
        go_wp2_with fail
        refine (s_l1In _ _ _ _).mono ?_
        rintro e _ ⟨rfl, rfl⟩
        rw [HX.out]
        go_wp2
        go_roundg (n - (k + 1))
        case rel => exact ⟨k + 1, by omega, rfl, by go_num, by rw [sum_take_succ l k (by have := HL.out; omega)], rfl, hid (take_mem_succ (by have := HL.out; omega) hh.out hx2)⟩
        case measure => omega
    · obtain rfl : k = n := by omega
      have hall : l.take k = l := List.take_of_length_le (by have := HL.out; omega)
      by_cases h24 : k = 24
      · have E := hid (show decide ((l.take k).sum = 2400) = goodProf l by rw [hall] at hh ⊢; simp [goodProf, any_inR.2 hh.out, HL.out, h24])
        clear hall
        subst h24
        go_wp2
        go_ret
        refine ⟨ret_bool ?_, by go_grown⟩
        rw [← E.out]
        exact Bool.eq_iff_iff.2 (by simp)
      · have E := hid (show false = goodProf l by simp [goodProf, HL.out, h24])
        clear hall
        go_wp2
        go_ret
        exact ⟨ret_bool E.out, by go_grown⟩

theorem i_isBase (n : Int) (w : World) : Calls Try.prog 72 #[.int .i64 n] w fun e w' => e = .returned (.bool (inR n 0 100000)) ∧ w = w' := by
  go_enter Try.func72, Try.ntmps72
  go_wp2_with fail
  refine (i_inside _ _ _ _).mono ?_
  rintro e w' ⟨rfl, rfl⟩
  go_wp2
  go_ret
  exact ⟨rfl, rfl⟩
theorem i_isHour (n : Int) (w : World) : Calls Try.prog 69 #[.int .i64 n] w fun e w' => e = .returned (.bool (inR n 0 23)) ∧ w = w' := by
  go_enter Try.func69, Try.ntmps69
  go_wp2_with fail
  refine (i_inside _ _ _ _).mono ?_
  rintro e w' ⟨rfl, rfl⟩
  go_wp2
  go_ret
  exact ⟨rfl, rfl⟩
theorem s_l6Base (n : Int) (w : World) : Calls Try.prog 70 #[.int .i64 n] w fun e w' => e = .returned (.bool (inR n 0 100000)) ∧ w = w' := by
  go_enter Try.func70, Try.ntmps70
  go_wp2_with fail
  refine (s_l1In _ _ _ _).mono ?_
  rintro e w' ⟨rfl, rfl⟩
  go_wp2
  go_ret
  exact ⟨rfl, rfl⟩
theorem s_l6Hour (n : Int) (w : World) : Calls Try.prog 68 #[.int .i64 n] w fun e w' => e = .returned (.bool (inR n 0 23)) ∧ w = w' := by
  go_enter Try.func68, Try.ntmps68
  go_wp2_with fail
  refine (s_l1In _ _ _ _).mono ?_
  rintro e w' ⟨rfl, rfl⟩
  go_wp2
  go_ret
  exact ⟨rfl, rfl⟩

/-- The sum of successive hours. -/
def hrs (l : List Int) (f k : Nat) : Int := ((List.range k).map fun i => l[(f + i) % 24]?.getD 0).sum
theorem hrs_succ (l : List Int) (f k : Nat) : hrs l f (k + 1) = hrs l f k + l[(f + k) % 24]?.getD 0 := by
  simp [hrs, List.range_succ]
theorem hrs_fit {l : List Int} (h : goodProf l = true) (f k : Nat) : 0 ≤ hrs l f k ∧ hrs l f k ≤ 1000 * (k : Int) := by
  have hg := goodProf_iff.1 h
  have := sum_fit (l := (List.range k).map fun i => l[(f + i) % 24]?.getD 0) (B := 1000) (by decide) (by
    intro x hx
    obtain ⟨i, hi, rfl⟩ := List.mem_map.1 hx
    exact hg.2.1 _ (getD_mem' (by rw [hg.1]; exact Nat.mod_lt _ (by decide))))
  simpa [hrs] using this

set_option maxHeartbeats 1000000 in
theorem i_sumFrom (a : Option Addr) (n c f k0 : Nat) (l : List Int) (w : World) (h : IntsAt w a n l) (hg : goodProf l = true) (hf : f ≤ 23) (hk : k0 ≤ 24) :
    Calls Try.prog 77 #[.agg #[.slice a n c], .int .i64 f, .int .i64 k0] w fun e w' => e = .returned (.int .i64 (hrs l f k0)) ∧ Below w.heap.size w w' := by
  have hn : n = 24 := by have := h.1; have := (goodProf_iff.1 hg).1; omega
  have H := hid h
  have HG := hid hg
  clear h hg
  subst hn
  go_enter Try.func77, Try.ntmps77
  go_wp2
  go_loopg [7, 10] k0 (fun g s i wr => ∃ k : Nat, k ≤ k0 ∧ g = k0 - k ∧ i = .int .i64 k ∧ s = .int .i64 (hrs l f k) ∧ wr = w.alloc (.cells #[.slice a 24 c] 26))
  case atStart => exact ⟨0, Nat.zero_le _, rfl, rfl, rfl, rfl⟩
  case round =>
    obtain ⟨k, hk, rfl, rfl, rfl, rfl⟩ := hrel
    have hb1 := hrs_fit HG.out f k
    have hb2 := hrs_fit HG.out f (k + 1)
    rw [hrs_succ] at hb2
    by_cases hlt : k < k0
    · have hm : (f + k) % 24 < 24 := Nat.mod_lt _ (by decide)
      obtain ⟨b, off, rfl, hbw, hcell⟩ := (H.out.below ((Below.refl _ _).alloc (Nat.le_refl _) (.cells #[.slice a 24 c] 26))).2 ((f + k) % 24) hm
      have e1 : ((f : Int) + (k : Int)).tmod 24 = (((f + k) % 24 : Nat) : Int) := by rw [Int.tmod_eq_emod_of_nonneg (by omega)]; omega
      have e2 : (((f : Int) + (k : Int)) % 24).toNat = (f + k) % 24 := by omega
      go_wp2
      go_roundg (k0 - (k + 1))
      case rel => exact ⟨k + 1, by omega, rfl, by go_num, by rw [hrs_succ], rfl⟩
      case measure => omega
    · obtain rfl : k = k0 := by omega
      go_wp2
      go_ret
      exact ⟨rfl, by go_grown⟩
set_option maxHeartbeats 1000000 in
theorem s_l6Sum (a : Option Addr) (n c f k0 : Nat) (l : List Int) (w : World) (h : IntsAt w a n l) (hg : goodProf l = true) (hf : f ≤ 23) (hk : k0 ≤ 24) :
    Calls Try.prog 75 #[.agg #[.slice a n c], .int .i64 f, .int .i64 k0] w fun e w' => e = .returned (.int .i64 (hrs l f k0)) ∧ Below w.heap.size w w' := by
  have hn : n = 24 := by have := h.1; have := (goodProf_iff.1 hg).1; omega
  have H := hid h
  have HG := hid hg
  clear h hg
  subst hn
  go_enter Try.func75, Try.ntmps75
  go_wp2
  go_loopg [7, 8] k0 (fun g s i wr => ∃ k : Nat, k ≤ k0 ∧ g = k0 - k ∧ i = .int .i64 k ∧ s = .int .i64 (hrs l f k) ∧ wr = w.alloc (.cells #[.slice a 24 c] 26))
  case atStart => exact ⟨0, Nat.zero_le _, rfl, rfl, rfl, rfl⟩
  case round =>
    obtain ⟨k, hk, rfl, rfl, rfl, rfl⟩ := hrel
    have hb1 := hrs_fit HG.out f k
    have hb2 := hrs_fit HG.out f (k + 1)
    rw [hrs_succ] at hb2
    by_cases hlt : k < k0
    · have hm : (f + k) % 24 < 24 := Nat.mod_lt _ (by decide)
      obtain ⟨b, off, rfl, hbw, hcell⟩ := (H.out.below ((Below.refl _ _).alloc (Nat.le_refl _) (.cells #[.slice a 24 c] 26))).2 ((f + k) % 24) hm
      have e1 : ((f : Int) + (k : Int)).tmod 24 = (((f + k) % 24 : Nat) : Int) := by rw [Int.tmod_eq_emod_of_nonneg (by omega)]; omega
      have e2 : (((f : Int) + (k : Int)) % 24).toNat = (f + k) % 24 := by omega
      go_wp2
      go_roundg (k0 - (k + 1))
      case rel => exact ⟨k + 1, by omega, rfl, by go_num, by rw [hrs_succ], rfl⟩
      case measure => omega
    · obtain rfl : k = k0 := by omega
      go_wp2
      go_ret
      exact ⟨rfl, by go_grown⟩

end Go.Proofs.Ytpmffboojkfpdaa
