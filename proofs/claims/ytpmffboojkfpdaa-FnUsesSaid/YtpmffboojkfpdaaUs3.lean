/-
  Texts of this claim, joined: ProfS, ProfI, ProfC, ProfH, ProfH2, ProfH3.
-/
import Derived.Deep.RegionHeld3
import Derived.Deep.AppendLies
import Derived.Deep.RegionLaw
import Derived.Test.YtpmffboojkfpdaaUs1
import Derived.Test.YtpmffboojkfpdaaUs2
/-
  Profiles: the storage that evens out a day.
-/
set_option linter.unusedVariables false
set_option linter.unusedSimpArgs false
namespace Go.Proofs.Ytpmffboojkfpdaa
open Go.RowKit

/-- What has been stored behind some hours. -/
def pre (l : List Int) (k : Nat) : Int := 100 * (k : Int) - (l.take k).sum
theorem pre_succ (l : List Int) (k : Nat) (hk : k < l.length) : pre l (k + 1) = pre l k + (100 - l[k]?.getD 0) := by
  unfold pre
  rw [sum_take_succ l k hk]
  push_cast
  omega
theorem pre_fit {l : List Int} (h : goodProf l = true) (k : Nat) (hk : k ≤ 24) : -21600 ≤ pre l k ∧ pre l k ≤ 2400 := by
  have hg := goodProf_iff.1 h
  have := sum_fit (l := l.take k) (B := 1000) (by decide) (fun x hx => hg.2.1 x (List.mem_of_mem_take hx))
  have hl : (l.take k).length = k := by rw [List.length_take]; omega
  rw [hl] at this
  unfold pre
  omega
def sumsL (l : List Int) (k : Nat) : List Int := (List.range k).map fun i => pre l (i + 1)
theorem sumsL_succ (l : List Int) (k : Nat) : sumsL l (k + 1) = sumsL l k ++ [pre l (k + 1)] := by simp [sumsL, List.range_succ]
theorem sumsL_len (l : List Int) (k : Nat) : (sumsL l k).length = k := by simp [sumsL]
def mxTo (l : List Int) : Nat → Int
  | 0 => -24000
  | k + 1 => max (mxTo l k) (pre l (k + 1))
def mnTo (l : List Int) : Nat → Int
  | 0 => 2400
  | k + 1 => min (mnTo l k) (pre l (k + 1))
theorem mx_ub (l : List Int) : ∀ k, ∀ x ∈ sumsL l k, x ≤ mxTo l k
  | 0, x, hx => by simp [sumsL] at hx
  | k + 1, x, hx => by
    rw [sumsL_succ, List.mem_append, List.mem_singleton] at hx
    simp only [mxTo]
    rcases hx with hx | rfl
    · have := mx_ub l k x hx; omega
    · omega
theorem mn_lb (l : List Int) : ∀ k, ∀ x ∈ sumsL l k, mnTo l k ≤ x
  | 0, x, hx => by simp [sumsL] at hx
  | k + 1, x, hx => by
    rw [sumsL_succ, List.mem_append, List.mem_singleton] at hx
    simp only [mnTo]
    rcases hx with hx | rfl
    · have := mn_lb l k x hx; omega
    · omega
theorem mx_mem {l : List Int} (h : goodProf l = true) : ∀ k, k ≤ 24 → mxTo l k = -24000 ∨ mxTo l k ∈ sumsL l k
  | 0, _ => .inl rfl
  | k + 1, hk => by
    have hp := pre_fit h (k + 1) hk
    rw [sumsL_succ, List.mem_append, List.mem_singleton]
    simp only [mxTo]
    by_cases hle : mxTo l k ≤ pre l (k + 1)
    · exact .inr (.inr (by omega))
    · rcases mx_mem h k (by omega) with e | e
      · omega
      · exact .inr (.inl (by rw [show max (mxTo l k) (pre l (k + 1)) = mxTo l k by omega]; exact e))
theorem mn_mem {l : List Int} (h : goodProf l = true) : ∀ k, 1 ≤ k → k ≤ 24 → mnTo l k ∈ sumsL l k
  | 0, h1, _ => by omega
  | k + 1, _, hk => by
    have hp := pre_fit h (k + 1) hk
    rw [sumsL_succ, List.mem_append, List.mem_singleton]
    simp only [mnTo]
    by_cases hle : pre l (k + 1) ≤ mnTo l k
    · exact .inr (by omega)
    · by_cases h0 : k = 0
      · subst h0; simp only [mnTo] at hle; simp only [Nat.zero_add] at hle hp; omega
      · exact .inl (by rw [show min (mnTo l k) (pre l (k + 1)) = mnTo l k by omega]; exact mn_mem h k (by omega) (by omega))
theorem mx_fit {l : List Int} (h : goodProf l = true) (k : Nat) (hk : k ≤ 24) : -24000 ≤ mxTo l k ∧ mxTo l k ≤ 2400 := by
  induction k with
  | zero => simp [mxTo]
  | succ k ih =>
    have := ih (by omega)
    have := pre_fit h (k + 1) hk
    simp only [mxTo]
    omega
theorem mn_fit {l : List Int} (h : goodProf l = true) (k : Nat) (hk : k ≤ 24) : -24000 ≤ mnTo l k ∧ mnTo l k ≤ 2400 := by
  induction k with
  | zero => simp [mnTo]
  | succ k ih =>
    have := ih (by omega)
    have := pre_fit h (k + 1) hk
    simp only [mnTo]
    omega
theorem mx_is {l : List Int} (h : goodProf l = true) {r : Int} (h1 : r ∈ sumsL l 24) (h2 : ∀ x ∈ sumsL l 24, x ≤ r) : r = mxTo l 24 := by
  have a := mx_ub l 24 r h1
  have hp := pre_fit h 1 (by omega)
  have hm : pre l 1 ∈ sumsL l 24 := by
    simp only [sumsL, List.mem_map, List.mem_range]
    exact ⟨0, by decide, rfl⟩
  have b := mx_ub l 24 _ hm
  rcases mx_mem h 24 (by omega) with e | e
  · omega
  · have := h2 _ e; omega
theorem mn_is {l : List Int} (h : goodProf l = true) {r : Int} (h1 : r ∈ sumsL l 24) (h2 : ∀ x ∈ sumsL l 24, r ≤ x) : r = mnTo l 24 := by
  have a := mn_lb l 24 r h1
  have := h2 _ (mn_mem h 24 (by omega) (by omega))
  omega

theorem f_Max (a : Option Addr) (n c : Nat) (l : List Int) (w : World) (h : IntsAt w a n l) (hn1 : 1 ≤ n) (hn : n ≤ 4194304) :
    Calls Try.prog 80 #[.slice a n c] w fun e w' => (∃ r, e = .returned (.int .i64 r) ∧ r ∈ l ∧ ∀ x ∈ l, x ≤ r) ∧ w = w' := by
  have hl := h.1
  obtain ⟨b0, off0, rfl, hbw0, hcell0⟩ := h.2 0 (by omega)
  simp only [Nat.add_zero] at hcell0
  have H := hid h
  have HL := hid hl
  clear h hl
  go_enter Try.func80, Try.ntmps80
  go_wp2
  go_loopg [3, 4] (n - 1) (fun g m i wr => ∃ (k : Nat) (r : Int), 1 ≤ k ∧ k ≤ n ∧ g = n - k ∧ i = .int .i64 k ∧ m = .int .i64 r ∧ w = wr ∧ Hid (r ∈ l.take k ∧ ∀ x ∈ l.take k, x ≤ r))
  case atStart =>
    have e : l.take 1 = [l[0]?.getD 0] := by rw [take_succ' l 0 (by have := HL.out; omega)]; simp
    exact ⟨1, _, by omega, hn1, rfl, rfl, rfl, rfl, by rw [e]; simp, by rw [e]; intro x hx; simp at hx; omega⟩
  case round =>
    obtain ⟨k, r, hk1, hk, rfl, rfl, rfl, rfl, hh⟩ := hrel
    by_cases hlt : k < n
    · obtain ⟨_, _, e1, hbw, hcell⟩ := H.out.2 k hlt
      cases e1
      have HN : Hid (max r (l[k]?.getD 0) ∈ l.take (k + 1) ∧ ∀ x ∈ l.take (k + 1), (fun r => x ≤ r) (max r (l[k]?.getD 0))) := by
        rw [take_succ' l k (by have := HL.out; omega)]
        refine ⟨?_, ?_⟩
        · rw [List.mem_append, List.mem_singleton]
          by_cases hle : max r (l[k]?.getD 0) = r
          · exact .inl (by rw [hle]; exact hh.out.1)
          · exact .inr (by omega)
        · intro x hx
          rw [List.mem_append, List.mem_singleton] at hx
          rcases hx with hx | rfl
          · have := hh.out.2 x hx
            show _ ≤ _
            omega
          · show _ ≤ _
            omega
      go_wp2
      all_goals go_roundg (n - (k + 1))
      all_goals first
        | omega
        | (refine ⟨k + 1, max r (l[k]?.getD 0), by omega, by omega, rfl, by go_num, ?_, rfl, HN⟩; first | rfl | (congr 1; omega))
    · obtain rfl : k = n := by omega
      go_wp2
      go_ret
      have e := hh.out
      rw [List.take_of_length_le (by have := HL.out; omega)] at e
      exact ⟨⟨r, rfl, e.1, e.2⟩, rfl⟩
theorem f_Min (a : Option Addr) (n c : Nat) (l : List Int) (w : World) (h : IntsAt w a n l) (hn1 : 1 ≤ n) (hn : n ≤ 4194304) :
    Calls Try.prog 81 #[.slice a n c] w fun e w' => (∃ r, e = .returned (.int .i64 r) ∧ r ∈ l ∧ ∀ x ∈ l, r ≤ x) ∧ w = w' := by
  have hl := h.1
  obtain ⟨b0, off0, rfl, hbw0, hcell0⟩ := h.2 0 (by omega)
  simp only [Nat.add_zero] at hcell0
  have H := hid h
  have HL := hid hl
  clear h hl
  go_enter Try.func81, Try.ntmps81
  go_wp2
  go_loopg [3, 4] (n - 1) (fun g m i wr => ∃ (k : Nat) (r : Int), 1 ≤ k ∧ k ≤ n ∧ g = n - k ∧ i = .int .i64 k ∧ m = .int .i64 r ∧ w = wr ∧ Hid (r ∈ l.take k ∧ ∀ x ∈ l.take k, r ≤ x))
  case atStart =>
    have e : l.take 1 = [l[0]?.getD 0] := by rw [take_succ' l 0 (by have := HL.out; omega)]; simp
    exact ⟨1, _, by omega, hn1, rfl, rfl, rfl, rfl, by rw [e]; simp, by rw [e]; intro x hx; simp at hx; omega⟩
  case round =>
    obtain ⟨k, r, hk1, hk, rfl, rfl, rfl, rfl, hh⟩ := hrel
    by_cases hlt : k < n
    · obtain ⟨_, _, e1, hbw, hcell⟩ := H.out.2 k hlt
      cases e1
      have HN : Hid (min r (l[k]?.getD 0) ∈ l.take (k + 1) ∧ ∀ x ∈ l.take (k + 1), (fun r => r ≤ x) (min r (l[k]?.getD 0))) := by
        rw [take_succ' l k (by have := HL.out; omega)]
        refine ⟨?_, ?_⟩
        · rw [List.mem_append, List.mem_singleton]
          by_cases hle : min r (l[k]?.getD 0) = r
          · exact .inl (by rw [hle]; exact hh.out.1)
          · exact .inr (by omega)
        · intro x hx
          rw [List.mem_append, List.mem_singleton] at hx
          rcases hx with hx | rfl
          · have := hh.out.2 x hx
            show _ ≤ _
            omega
          · show _ ≤ _
            omega
      go_wp2
      all_goals go_roundg (n - (k + 1))
      all_goals first
        | omega
        | (refine ⟨k + 1, min r (l[k]?.getD 0), by omega, by omega, rfl, by go_num, ?_, rfl, HN⟩; first | rfl | (congr 1; omega))
    · obtain rfl : k = n := by omega
      go_wp2
      go_ret
      have e := hh.out
      rw [List.take_of_length_le (by have := HL.out; omega)] at e
      exact ⟨⟨r, rfl, e.1, e.2⟩, rfl⟩

theorem i_StorageFor_no (a : Option Addr) (n c : Nat) (base : Int) (l : List Int) (w : World) (h : IntsAt w a n l) (hn : n ≤ 1048576) (hv : (goodProf l && inR base 0 100000) = false) :
    Calls Try.prog 25 #[.agg #[.slice a n c], .int .i64 base] w fun e w' => e = .returned (.tuple #[.int .i64 0, .int .i64 0, .bool false]) ∧ Below w.heap.size w w' := by
  have H := hid h
  clear h
  cases h1 : goodProf l
  · have HG := hid h1
    clear h1 hv
    go_enter Try.func25, Try.ntmps25
    go_wp2_with fail
    refine (i_IsValidProfile _ _ _ l _ (H.out.below (by go_grown)) (by omega)).mono ?_
    rintro e w1 ⟨rfl, hb1⟩
    rw [HG.out]
    obtain ⟨hc_w1, hf_w1⟩ := bcell hb1
    have hz_w1_0 : w.heap.size < w1.heap.size := by have := hb1.size; simp only [World.size_alloc] at this; omega
    have HB1 := hid (bstep (by go_grown) hb1 : Below w.heap.size w w1)
    go_wp2
    go_ret3
    exact ⟨rfl, HB1.out⟩
  · have HG := hid h1
    have H2 : Hid (inR base 0 100000 = false) := hid (by rw [h1] at hv; exact hv)
    clear h1 hv
    go_enter Try.func25, Try.ntmps25
    go_wp2_with fail
    refine (i_IsValidProfile _ _ _ l _ (H.out.below (by go_grown)) (by omega)).mono ?_
    rintro e w1 ⟨rfl, hb1⟩
    rw [HG.out]
    obtain ⟨hc_w1, hf_w1⟩ := bcell hb1
    have hz_w1_0 : w.heap.size < w1.heap.size := by have := hb1.size; simp only [World.size_alloc] at this; omega
    have HB1 := hid (bstep (by go_grown) hb1 : Below w.heap.size w w1)
    go_wp2_with fail
    refine (i_isBase _ _).mono ?_
    rintro e _ ⟨rfl, rfl⟩
    rw [H2.out]
    go_wp2
    go_ret3
    exact ⟨rfl, HB1.out⟩
theorem s_StorageFor_no (a : Option Addr) (n c : Nat) (base : Int) (l : List Int) (w : World) (h : IntsAt w a n l) (hn : n ≤ 1048576) (hv : (goodProf l && inR base 0 100000) = false) :
    Calls Try.prog 24 #[.agg #[.slice a n c], .int .i64 base] w fun e w' => e = .returned (.tuple #[.int .i64 0, .int .i64 0, .bool false]) ∧ Below w.heap.size w w' := by
  have H := hid h
  clear h
  cases h1 : goodProf l
  · have HG := hid h1
    clear h1 hv
    go_enter Try.func24, Try.ntmps24
    go_wp2_with fail
    refine (s_l6Good _ _ _ l _ (H.out.below (by go_grown)) (by omega)).mono ?_
    rintro e w1 ⟨rfl, hb1⟩
    rw [HG.out]
    obtain ⟨hc_w1, hf_w1⟩ := bcell hb1
    have hz_w1_0 : w.heap.size < w1.heap.size := by have := hb1.size; simp only [World.size_alloc] at this; omega
    have HB1 := hid (bstep (by go_grown) hb1 : Below w.heap.size w w1)
    go_wp2
    go_ret3
    exact ⟨rfl, HB1.out⟩
  · have HG := hid h1
    have H2 : Hid (inR base 0 100000 = false) := hid (by rw [h1] at hv; exact hv)
    clear h1 hv
    go_enter Try.func24, Try.ntmps24
    go_wp2_with fail
    refine (s_l6Good _ _ _ l _ (H.out.below (by go_grown)) (by omega)).mono ?_
    rintro e w1 ⟨rfl, hb1⟩
    rw [HG.out]
    obtain ⟨hc_w1, hf_w1⟩ := bcell hb1
    have hz_w1_0 : w.heap.size < w1.heap.size := by have := hb1.size; simp only [World.size_alloc] at this; omega
    have HB1 := hid (bstep (by go_grown) hb1 : Below w.heap.size w w1)
    go_wp2_with fail
    refine (s_l6Base _ _).mono ?_
    rintro e _ ⟨rfl, rfl⟩
    rw [H2.out]
    go_wp2
    go_ret3
    exact ⟨rfl, HB1.out⟩

set_option maxRecDepth 100000 in
set_option maxHeartbeats 1000000 in
theorem s_StorageFor_yes (a : Option Addr) (n c : Nat) (base : Int) (l : List Int) (w : World) (h : IntsAt w a n l) (h1 : goodProf l = true) (h2 : inR base 0 100000 = true) :
    Calls Try.prog 24 #[.agg #[.slice a n c], .int .i64 base] w fun e w' => e = .returned (.tuple #[.int .i64 (lowN (60 * base * (mxTo l 24 - mnTo l 24)) 100), .int .i64 (lowD (60 * base * (mxTo l 24 - mnTo l 24)) 100), .bool true]) ∧ Below w.heap.size w w' := by
  have hg := goodProf_iff.1 h1
  have hn : n = 24 := by have := h.1; omega
  have hb := inR_iff.1 h2
  have f1 := mx_fit h1 24 (by omega)
  have f2 := mn_fit h1 24 (by omega)
  have hm := mul_in (x := 60 * base) (y := mxTo l 24 - mnTo l 24) (A := 6000000) (B := 30000) (by omega) (by omega)
  simp only [Int.reduceMul] at hm
  have H := hid h
  have HG := hid h1
  have H2 := hid h2
  have HL := hid hg.1
  have HV := hid hg.2.1
  clear h h1 h2 hg
  subst hn
  go_enter Try.func24, Try.ntmps24
  go_wp2_with fail
  refine (s_l6Good _ _ _ l _ (H.out.below (by go_grown)) (by omega)).mono ?_
  rintro e w1 ⟨rfl, hb1⟩
  rw [HG.out]
  obtain ⟨hc_w1, hf_w1⟩ := bcell hb1
  have hz_w1_0 : w.heap.size < w1.heap.size := by have := hb1.size; simp only [World.size_alloc] at this; omega
  have HB1 := hid (bstep (by go_grown) hb1 : Below w.heap.size w w1)
  go_wp2_with fail
  refine (s_l6Base _ _).mono ?_
  rintro e _ ⟨rfl, rfl⟩
  rw [H2.out]
  go_wp2
  go_loopg [7, 8, 9, 10] 24 (fun g s7 s8 s9 i wr => ∃ k : Nat, k ≤ 24 ∧ g = 24 - k ∧ i = .int .i64 k ∧ s7 = .int .i64 (mnTo l k) ∧ s8 = .int .i64 (mxTo l k) ∧ s9 = .int .i64 (pre l k) ∧ w1 = wr)
  case atStart => exact ⟨0, Nat.zero_le _, rfl, rfl, rfl, rfl, by simp [pre], rfl⟩
  case round =>
    obtain ⟨k, hk, rfl, rfl, rfl, rfl, rfl, rfl⟩ := hrel
    by_cases hlt : k < 24
    · obtain ⟨b, off, rfl, hbw, hcell⟩ := (H.out.below HB1.out).2 k hlt
      have f1 := pre_fit HG.out k (by omega)
      have f2 := pre_fit HG.out (k + 1) (by omega)
      have f3 := pre_succ l k (by have := HL.out; omega)
      have e1 : pre l k + 100 - l[k]?.getD 0 = pre l (k + 1) := by omega
      have E1 := hid e1
      have hv := HV.out _ (getD_mem' (k := k) (by have := HL.out; omega))
      clear e1 f3
      go_wp2_with fail
      refine (s_l1Least _ _ _).mono ?_
      rintro e _ ⟨rfl, rfl⟩
      go_wp2_with fail
      refine (s_l1Most _ _ _).mono ?_
      rintro e _ ⟨rfl, rfl⟩
      go_wp2
      go_roundg (24 - (k + 1))
      case rel => exact ⟨k + 1, by omega, rfl, by go_num, by rw [E1.out]; rfl, by rw [E1.out]; rfl, by rw [E1.out], rfl⟩
      case measure => omega
    · obtain rfl : k = 24 := by omega
      go_wp2_with fail
      refine (s_l3Reduce _ _ _ (by omega) (by omega) (by omega)).mono ?_
      rintro e _ ⟨rfl, m, rfl⟩
      go_wp2
      go_ret3
      exact ⟨rfl, below_drewN HB1.out _⟩

set_option maxRecDepth 100000 in
set_option maxHeartbeats 1000000 in
theorem i_StorageFor_yes (a : Option Addr) (n c : Nat) (base : Int) (l : List Int) (w : World) (h : IntsAt w a n l) (h1 : goodProf l = true) (h2 : inR base 0 100000 = true) :
    Calls Try.prog 25 #[.agg #[.slice a n c], .int .i64 base] w fun e w' => e = .returned (.tuple #[.int .i64 (lowN (60 * base * (mxTo l 24 - mnTo l 24)) 100), .int .i64 (lowD (60 * base * (mxTo l 24 - mnTo l 24)) 100), .bool true]) ∧ Below w.heap.size w w' := by
  have hg := goodProf_iff.1 h1
  have hn : n = 24 := by have := h.1; omega
  have hb := inR_iff.1 h2
  have f1 := mx_fit h1 24 (by omega)
  have f2 := mn_fit h1 24 (by omega)
  have hm := mul_in (x := 60 * base) (y := mxTo l 24 - mnTo l 24) (A := 6000000) (B := 30000) (by omega) (by omega)
  simp only [Int.reduceMul] at hm
  have H := hid h
  have HG := hid h1
  have H2 := hid h2
  have HL := hid hg.1
  have HV := hid hg.2.1
  clear h h1 h2 hg
  subst hn
  go_enter Try.func25, Try.ntmps25
  go_wp2_with fail
  refine (i_IsValidProfile _ _ _ l _ (H.out.below (by go_grown)) (by omega)).mono ?_
  rintro e w1 ⟨rfl, hb1⟩
  rw [HG.out]
  obtain ⟨hc_w1, hf_w1⟩ := bcell hb1
  have hz_w1_0 : w.heap.size < w1.heap.size := by have := hb1.size; simp only [World.size_alloc] at this; omega
  have HB1 := hid (bstep (by go_grown) hb1 : Below w.heap.size w w1)
  go_wp2_with fail
  refine (i_isBase _ _).mono ?_
  rintro e _ ⟨rfl, rfl⟩
  rw [H2.out]
  go_wp2
  go_loopg [7, 8, 25] 24 (fun g s7 s8 i wr => ∃ (k : Nat) (a' : Option Addr) (c' : Nat), k ≤ 24 ∧ g = 24 - k ∧ i = .int .i64 k ∧ s7 = .slice a' k c' ∧ s8 = .int .i64 (pre l k) ∧ Hid (OwnI wr w.heap.size (.slice a' k c') (sumsL l k) ∧ Below w.heap.size w wr))
  case atStart => exact ⟨0, _, _, Nat.zero_le _, rfl, rfl, rfl, by simp [pre], (OwnI.lit0 w1).mono HB1.out.size, bstep HB1.out ((Below.refl _ _).alloc (Nat.le_refl _) _)⟩
  case round =>
    obtain ⟨k, a', c', hk, rfl, rfl, rfl, rfl, hh⟩ := hrel
    by_cases hlt : k < 24
    · obtain ⟨b, off, rfl, hbw, hcell⟩ := (H.out.below hh.out.2).2 k hlt
      have f1 := pre_fit HG.out k (by omega)
      have f2 := pre_fit HG.out (k + 1) (by omega)
      have f3 := pre_succ l k (by have := HL.out; omega)
      have e1 : pre l k + (100 - l[k]?.getD 0) = pre l (k + 1) := by omega
      have E1 := hid e1
      have hv := HV.out _ (getD_mem' (k := k) (by have := HL.out; omega))
      clear e1 f3
      go_wp2_with (at_builtin; refine wp_append_ints _ rfl _ _ rfl w.heap.size _ (sumsL l k) rfl (hh.out.1.alloc _) _ 1 1 [pre l k + (100 - l[k]?.getD 0)] rfl (IntsAt.single _ _) (k + 1) (by rw [sumsL_len]) (by omega) (by have := hh.out.2.size; simp; omega) ?_)
      intro a'' c'' w2 hown hgrow hblk
      have HO := hid (show OwnI w2 w.heap.size (.slice a'' (k + 1) c'') (sumsL l (k + 1)) by rw [sumsL_succ, ← E1.out]; exact hown)
      have HB := hid ((bstep hh.out.2 (by go_grown)).grown hgrow (by have := hh.out.2.size; simp; omega) (fun q hq => (hh.out.1.lt q hq).1))
      clear hown hgrow hblk hh
      go_wp2
      go_roundg (24 - (k + 1))
      case rel => exact ⟨k + 1, _, _, by omega, rfl, by go_num, rfl, by rw [E1.out], HO.out, HB.out⟩
      case measure => omega
    · obtain rfl : k = 24 := by omega
      go_wp2_with fail
      refine (f_Max _ _ _ (sumsL l 24) _ hh.out.1.at (by omega) (by omega)).mono ?_
      rintro e _ ⟨⟨r, rfl, r1, r2⟩, rfl⟩
      obtain rfl := mx_is HG.out r1 r2
      clear r1 r2
      go_wp2_with fail
      refine (f_Min _ _ _ (sumsL l 24) _ hh.out.1.at (by omega) (by omega)).mono ?_
      rintro e _ ⟨⟨r, rfl, r1, r2⟩, rfl⟩
      obtain rfl := mn_is HG.out r1 r2
      clear r1 r2
      go_wp2_with fail
      refine (i_lowestTerms _ _ _ (by omega) (by omega) (by omega)).mono ?_
      rintro e _ ⟨rfl, m, rfl⟩
      go_wp2
      go_ret3
      exact ⟨rfl, below_drewN hh.out.2 _⟩

end Go.Proofs.Ytpmffboojkfpdaa

/-
  Flattening a profile, in plain lists.
-/
set_option linter.unusedVariables false
set_option linter.unusedSimpArgs false
namespace Go.Proofs.Ytpmffboojkfpdaa
open Go.RowKit

abbrev el (L : List Int) (j : Nat) : Int := L[j]?.getD 0
/-- The first index of the greatest, and of the smallest, of the first numbers. -/
def pkTo (L : List Int) : Nat → Nat
  | 0 => 0
  | k + 1 => if el L (pkTo L k) < el L k then k else pkTo L k
def lwTo (L : List Int) : Nat → Nat
  | 0 => 0
  | k + 1 => if el L k < el L (lwTo L k) then k else lwTo L k
theorem pkTo_lt (L : List Int) : ∀ k, 1 ≤ k → pkTo L k < k
  | 0, h => by omega
  | k + 1, _ => by
    unfold pkTo
    split
    · omega
    · by_cases h0 : k = 0
      · subst h0; simp [pkTo]
      · have := pkTo_lt L k (by omega); omega
theorem lwTo_lt (L : List Int) : ∀ k, 1 ≤ k → lwTo L k < k
  | 0, h => by omega
  | k + 1, _ => by
    unfold lwTo
    split
    · omega
    · by_cases h0 : k = 0
      · subst h0; simp [lwTo]
      · have := lwTo_lt L k (by omega); omega
theorem pkTo_max (L : List Int) : ∀ k j, j < k → el L j ≤ el L (pkTo L k)
  | 0, j, h => by omega
  | k + 1, j, h => by
    have ih := pkTo_max L k
    unfold pkTo
    split
    · by_cases e : j = k
      · subst e; exact Int.le_refl _
      · have := ih j (by omega); omega
    · by_cases e : j = k
      · subst e; omega
      · exact ih j (by omega)
theorem lwTo_min (L : List Int) : ∀ k j, j < k → el L (lwTo L k) ≤ el L j
  | 0, j, h => by omega
  | k + 1, j, h => by
    have ih := lwTo_min L k
    unfold lwTo
    split
    · by_cases e : j = k
      · subst e; exact Int.le_refl _
      · have := ih j (by omega); omega
    · by_cases e : j = k
      · subst e; omega
      · exact ih j (by omega)
theorem pkTo_first (L : List Int) : ∀ k j, j < pkTo L k → el L j < el L (pkTo L k)
  | 0, j, h => by simp [pkTo] at h
  | k + 1, j, h => by
    have ih := pkTo_first L k
    unfold pkTo at h ⊢
    split at h
    · rename_i hlt
      rw [if_pos hlt]
      have := pkTo_max L k j h
      omega
    · rename_i hlt
      rw [if_neg hlt]
      exact ih j h
theorem lwTo_first (L : List Int) : ∀ k j, j < lwTo L k → el L (lwTo L k) < el L j
  | 0, j, h => by simp [lwTo] at h
  | k + 1, j, h => by
    have ih := lwTo_first L k
    unfold lwTo at h ⊢
    split at h
    · rename_i hlt
      rw [if_pos hlt]
      have := lwTo_min L k j h
      omega
    · rename_i hlt
      rw [if_neg hlt]
      exact ih j h

theorem sum_set' : ∀ (l : List Int) (i : Nat) (v : Int), i < l.length → (l.set i v).sum = l.sum - el l i + v
  | [], i, v, h => by simp at h
  | x :: l, 0, v, h => by simp [el]; omega
  | x :: l, i + 1, v, h => by
    have ih := sum_set' l i v (by simpa using h)
    simp only [el] at ih
    simp only [List.set_cons_succ, List.sum_cons, el, List.getElem?_cons_succ]
    omega
theorem sum_ge {l : List Int} {B : Int} (h : ∀ x ∈ l, B ≤ x) : B * (l.length : Int) ≤ l.sum := by
  induction l with
  | nil => simp
  | cons x r ih =>
    have h1 := h x (by simp)
    have h2 := ih fun y hy => h y (by simp [hy])
    simp only [List.sum_cons, List.length_cons]
    have e : B * ((r.length + 1 : Nat) : Int) = B * (r.length : Int) + B := by rw [Int.natCast_add, Int.mul_add]; simp
    omega
theorem el_set (l : List Int) (i j : Nat) (v : Int) (h : i < l.length) : el (l.set i v) j = if i = j then v else el l j := by
  unfold el
  by_cases e : i = j
  · subst e; rw [List.getElem?_set_self h, if_pos rfl]; rfl
  · rw [List.getElem?_set_ne e, if_neg e]
theorem mem_el {l : List Int} {x : Int} (h : x ∈ l) : ∃ j, j < l.length ∧ x = el l j := by
  obtain ⟨j, hj, rfl⟩ := List.mem_iff_getElem.1 h
  exact ⟨j, hj, by simp [el, hj]⟩
theorem map_set_sum (l : List Int) (f : Int → Int) (i : Nat) (v : Int) (h : i < l.length) : ((l.set i v).map f).sum = (l.map f).sum - f (el l i) + f v := by
  rw [List.map_set, sum_set' _ _ _ (by simpa using h)]
  have : el (l.map f) i = f (el l i) := by simp [el, h]
  rw [this]

/-- One step: the greatest one less, the smallest one more. -/
def stepF (L : List Int) : List Int :=
  let p := pkTo L 24
  let t := lwTo L 24
  let L1 := L.set p (el L p - 1)
  L1.set t (el L1 t + 1)
/-- How much lies above a number. -/
def exc (most : Int) (L : List Int) : Int := (L.map fun x => max (x - most) 0).sum
theorem exc_pos (most : Int) (L : List Int) : 0 ≤ exc most L := by
  have := sum_ge (l := L.map fun x => max (x - most) 0) (B := 0) (by intro x hx; obtain ⟨y, -, rfl⟩ := List.mem_map.1 hx; omega)
  unfold exc
  omega
theorem low_small {L : List Int} (hg : goodProf L = true) (hp : 100 < el L (pkTo L 24)) : el L (lwTo L 24) < 100 := by
  obtain ⟨h1, h2, h3⟩ := goodProf_iff.1 hg
  apply Classical.byContradiction
  intro hn
  have hall : ∀ j, j < 24 → 100 ≤ el L j := fun j hj => by have := lwTo_min L 24 j hj; omega
  have hpl := pkTo_lt L 24 (by omega)
  have hs := sum_ge (l := L.set (pkTo L 24) 100) (B := 100) (by
    intro x hx
    obtain ⟨j, hj, rfl⟩ := mem_el hx
    rw [el_set _ _ _ _ (by omega)]
    split
    · omega
    · exact hall j (by simpa [h1] using hj))
  rw [sum_set' _ _ _ (by omega), List.length_set, h1, h3] at hs
  omega
theorem stepF_good {L : List Int} {most : Int} (hg : goodProf L = true) (hm : 100 ≤ most) (hp : most < el L (pkTo L 24)) : goodProf (stepF L) = true ∧ exc most (stepF L) + 1 = exc most L := by
  obtain ⟨h1, h2, h3⟩ := goodProf_iff.1 hg
  have hl := low_small hg (by omega)
  have hpl := pkTo_lt L 24 (by omega)
  have htl := lwTo_lt L 24 (by omega)
  have hb : ∀ j, j < 24 → 0 ≤ el L j ∧ el L j ≤ 1000 := fun j hj => h2 _ (getD_mem' (by omega))
  have hne : pkTo L 24 ≠ lwTo L 24 := fun e => by rw [e] at hp; omega
  have e1 : el (L.set (pkTo L 24) (el L (pkTo L 24) - 1)) (lwTo L 24) = el L (lwTo L 24) := by rw [el_set _ _ _ _ (by omega), if_neg hne]
  refine ⟨goodProf_iff.2 ⟨by simp [stepF, h1], ?_, ?_⟩, ?_⟩
  · intro x hx
    obtain ⟨j, hj, rfl⟩ := mem_el hx
    have hj' : j < 24 := by simpa [stepF, h1] using hj
    simp only [stepF]
    rw [el_set _ _ _ _ (by simp; omega)]
    split
    · have := hb _ htl; rw [e1]; omega
    · rw [el_set _ _ _ _ (by omega)]
      split
      · have := hb _ hpl; omega
      · exact hb j hj'
  · simp only [stepF]
    rw [sum_set' _ _ _ (by simp; omega), sum_set' _ _ _ (by omega), e1, h3]
    omega
  · simp only [stepF, exc]
    rw [map_set_sum _ _ _ _ (by simp; omega), map_set_sum _ _ _ _ (by omega), e1]
    omega

def flat (most : Int) : Nat → List Int → List Int
  | 0, L => L
  | k + 1, L => if most < el L (pkTo L 24) then flat most k (stepF L) else L
/-- The flattened list. -/
def fin (most : Int) (L : List Int) : List Int := flat most (exc most L).toNat L
theorem fin_step {L : List Int} {most : Int} (hg : goodProf L = true) (hm : 100 ≤ most) (hp : most < el L (pkTo L 24)) : fin most L = fin most (stepF L) := by
  have h1 := (stepF_good hg hm hp).2
  have h2 := exc_pos most (stepF L)
  unfold fin
  rw [show (exc most L).toNat = (exc most (stepF L)).toNat + 1 by omega, flat, if_pos hp]
theorem fin_done {L : List Int} {most : Int} (hp : ¬ most < el L (pkTo L 24)) : fin most L = L := by
  unfold fin
  cases (exc most L).toNat with
  | zero => rfl
  | succ k => rw [flat, if_neg hp]

/-- What FlattenProfile returns. -/
def flatR (l : List Int) (most : Int) : List Int × Bool := if goodProf l = true ∧ inR most 100 1000 = true then (fin most l, true) else ([], false)

end Go.Proofs.Ytpmffboojkfpdaa

/-
  What the laws do with profiles.
-/
set_option linter.unusedVariables false
set_option linter.unusedSimpArgs false
namespace Go.Proofs.Ytpmffboojkfpdaa
open Go.RowKit

theorem l_szIntS_yes (a : Option Addr) (n c : Nat) (w : World) (hn : n ≤ 1048576) : Calls Try.prog 66 #[.slice a n c, .int .i64 1048576] w fun e w' => e = .returned (.int .i64 (1048576 - (n : Int))) ∧ w = w' := by
  go_enter Try.func66, Try.ntmps66
  go_wp2
  go_ret
  exact ⟨rfl, rfl⟩
theorem l_szIntS_no (a : Option Addr) (n c : Nat) (w : World) (hn : 1048576 < n) (hn2 : n ≤ 9223372036854775807) : Calls Try.prog 66 #[.slice a n c, .int .i64 1048576] w fun e w' => e = .returned (.int .i64 (-1)) ∧ w = w' := by
  go_enter Try.func66, Try.ntmps66
  go_wp2
  go_ret
  exact ⟨rfl, rfl⟩
theorem l_szDayProfile_yes (a : Option Addr) (n c : Nat) (w : World) (hn : n ≤ 1048576) : Calls Try.prog 13 #[.agg #[.slice a n c], .int .i64 1048576] w fun e w' => e = .returned (.int .i64 (1048576 - (n : Int))) ∧ Below w.heap.size w w' := by
  go_enter Try.func13, Try.ntmps13
  go_wp2_with fail
  refine (l_szIntS_yes _ _ _ _ hn).mono ?_
  rintro e _ ⟨rfl, rfl⟩
  go_wp2
  go_ret
  exact ⟨rfl, by go_grown⟩
theorem l_szDayProfile_no (a : Option Addr) (n c : Nat) (w : World) (hn : 1048576 < n) (hn2 : n ≤ 9223372036854775807) : Calls Try.prog 13 #[.agg #[.slice a n c], .int .i64 1048576] w fun e w' => e = .returned (.int .i64 (-1)) ∧ Below w.heap.size w w' := by
  go_enter Try.func13, Try.ntmps13
  go_wp2_with fail
  refine (l_szIntS_no _ _ _ _ hn hn2).mono ?_
  rintro e _ ⟨rfl, rfl⟩
  go_wp2
  go_ret
  exact ⟨rfl, by go_grown⟩

theorem l_toDayProfile (a : Option Addr) (n c : Nat) (l : List Int) (w : World) (h : IntsAt w a n l) (hn : n ≤ 1048576) :
    Calls Try.prog 15 #[.agg #[.slice a n c]] w fun e w' => ∃ a' c', e = .returned (.agg #[.slice a' n c']) ∧ OwnI w' w.heap.size (.slice a' n c') l ∧ Below w.heap.size w w' := by
  have H := hid h
  clear h
  go_enter Try.func15, Try.ntmps15
  go_wp2_with fail
  refine (l_toIntS _ _ _ l _ (H.out.below (by go_grown)) (by omega)).mono ?_
  rintro e w1 ⟨a1, c1, rfl, ho, hb⟩
  obtain ⟨hc_w1, hf_w1⟩ := bcell hb
  have hz := hb.size
  simp only [World.size_alloc] at hz
  have hz0 : w.heap.size < w1.heap.size := by omega
  have hz1 : w.heap.size + 1 < w1.heap.size := by omega
  have hz2 : w.heap.size + 1 + 1 < w1.heap.size := by omega
  have HO := hid ho
  have HB := hid (bstep (by go_grown) hb : Below w.heap.size w w1)
  clear ho
  have T1 : w1.heap[w.heap.size + 1]? = some (.cells #[.slice none 0 0] 26 (0, 0)) := (hb.block _ (by simp)).trans (mid_new _ _ _ _ (by simp))
  clear hb
  go_wp2
  have e7 := heap_setCell_same _ _ 0 _ _ (.slice a1 n c1) (other_cell (b := w.heap.size + 1 + 1) (o := 0) (u := .slice a1 n c1) T1 (by omega))
  have u0 := cell_of_row _ _ 0 _ _ (0, 0) e7
  simp only [List.setIfInBounds_toArray, List.set_cons_zero, List.getElem?_toArray, List.getElem?_cons_zero] at u0
  refine bodyPost_ret (v := .agg #[.slice a1 n c1]) (by simp [results, Try.results15, go_sem, *]) rfl ⟨_, _, rfl, ?_, ?_⟩
  · exact ((HO.out.far (by simp)).far (by simp)).mono (by simp <;> omega)
  · exact (HB.out.setCell (by simp <;> omega) _).setCell (by simp <;> omega) _

theorem l_eqDayProfile (a b : Option Addr) (n c d : Nat) (l : List Int) (w : World) (h : IntsAt w a n l) (h' : IntsAt w b n l) (hn : n ≤ 1048576) :
    Calls Try.prog 17 #[.agg #[.slice a n c], .agg #[.slice b n d]] w fun e w' => e = .returned (.bool true) ∧ Below w.heap.size w w' := by
  have H := hid h
  have H' := hid h'
  clear h h'
  go_enter Try.func17, Try.ntmps17
  go_wp2_with fail
  refine (l_eqIntS _ _ _ _ _ _ l l _ (H.out.below (by go_grown)) (H'.out.below (by go_grown)) (by omega) (by omega)).mono ?_
  rintro e w1 ⟨rfl, hb⟩
  rw [show decide (l = l) = true by simp]
  go_wp2
  go_ret
  exact ⟨rfl, bstep (by go_grown) hb⟩

end Go.Proofs.Ytpmffboojkfpdaa

/-
  Profiles: a shifted profile.
-/
set_option linter.unusedVariables false
set_option linter.unusedSimpArgs false
namespace Go.Proofs.Ytpmffboojkfpdaa
open Go.RowKit

theorem last_newP (W : World) (x : Obj) (g : Nat) (hg : g = W.heap.size) : (W.alloc x).heap[g]? = some x := by
  subst hg
  exact heap_alloc_new _ _
/-- The shifted percentages. -/
def shiftL (l : List Int) (h k : Nat) : List Int := (List.range k).map fun i => l[(i + 24 - h) % 24]?.getD 0
theorem shiftL_len (l : List Int) (h k : Nat) : (shiftL l h k).length = k := by simp [shiftL]
theorem shiftL_succ (l : List Int) (h k : Nat) : shiftL l h (k + 1) = shiftL l h k ++ [l[(k + 24 - h) % 24]?.getD 0] := by simp [shiftL, List.range_succ]
theorem shift_is {l L : List Int} {h : Nat} (hh : h ≤ 23) (hL : L.length = 24) (hall : ∀ j, j < 24 → L[(j + h) % 24]?.getD 0 = l[j]?.getD 0) : L = shiftL l h 24 := by
  apply List.ext_getElem?
  intro i
  by_cases hi : i < 24
  · have := hall ((i + 24 - h) % 24) (Nat.mod_lt _ (by decide))
    have e : ((i + 24 - h) % 24 + h) % 24 = i := by omega
    rw [e] at this
    rw [List.getElem?_eq_getElem (by omega)] at this ⊢
    simp only [Option.getD_some] at this
    rw [this]
    simp [shiftL, hi]
  · rw [List.getElem?_eq_none (by omega), List.getElem?_eq_none (by rw [shiftL_len]; omega)]

set_option maxRecDepth 100000 in
set_option maxHeartbeats 2000000 in
theorem i_ShiftProfile_yes (a : Option Addr) (n c h : Nat) (l : List Int) (w : World) (hA : IntsAt w a n l) (h1 : goodProf l = true) (h2 : inR (h : Int) 0 23 = true) :
    Calls Try.prog 16 #[.agg #[.slice a n c], .int .i64 h] w fun e w' => ∃ a' c', e = .returned (.tuple #[.agg #[.slice a' 24 c'], .bool true]) ∧ OwnI w' w.heap.size (.slice a' 24 c') (shiftL l h 24) ∧ Below w.heap.size w w' := by
  obtain ⟨i0, hi, hz0, hz1, hz2⟩ := info_parts Try.infoInt
  have hn : n = 24 := by have := hA.1; have := (goodProf_iff.1 h1).1; omega
  have hh := inR_iff.1 h2
  have H := hid hA
  have HG := hid h1
  have H2 := hid h2
  have HI := hid hi
  have HZ := hid hz0
  have HZ1 := hid hz1
  have HZ2 := hid hz2
  clear hA h1 h2 hi hz0 hz1 hz2
  subst hn
  have hh2 : h ≤ 23 := by omega
  go_enter Try.func16, Try.ntmps16
  go_wp2_with fail
  refine (i_IsValidProfile _ _ _ l _ (H.out.below (by go_grown)) (by omega)).mono ?_
  rintro e w1 ⟨rfl, hb1⟩
  rw [HG.out]
  have HB1 := hid (bstep (by go_grown) hb1 : Below w.heap.size w w1)
  have hz := hb1.size
  simp only [World.size_alloc] at hz
  have T1 := hid ((hb1.block (w.heap.size + 1) (by simp)).trans (last_newP (w.alloc _) _ _ (by simp)))
  have T0 := hid ((hb1.block w.heap.size (by simp <;> omega)).trans (mid_new w _ _ _ rfl))
  go_wp2_with fail
  refine (i_isHour _ _).mono ?_
  rintro e _ ⟨rfl, rfl⟩
  rw [H2.out]
  clear hb1
  have n0 : w1.cell? ⟨w.heap.size, 0, none⟩ = some (.slice a 24 c) := by rw [cell_of_row w1 _ _ _ _ (0, 0) T0.out]; rfl
  have hz0 : w.heap.size < w1.heap.size := by omega
  go_wp2_with (at_make; refine wpList_make_full _ rfl _ _ 22 rfl w1.heap.size 3 i0 (.int .i64 0) 1 Try.underlying22 HI.out HZ.out HZ1.out _ _ _ _ 24 rfl rfl rfl rfl ?b2 ?b3 ?b4 ?_)
  case b2 => rw [HZ2.out]; omega
  case b3 => unfold maxLen; omega
  case b4 => exact Nat.le_refl _
  intro w2 hown hgrow
  have ho := OwnI.made hown
  have HO := hid ho
  have HB2 := hid (below_of_grown hgrow (Nat.le_refl _) (fun k hk => by simp at hk))
  have n2 := (HB2.out.cell (p := ⟨w.heap.size, 0, none⟩) hz0).trans n0
  have hz2 : w.heap.size < w2.heap.size := by have := HB2.out.size; omega
  clear hown ho hgrow n0
  go_wp2
  go_loopg [23] 24 (fun g i wr => ∃ (k : Nat) (L : List Int), k ≤ 24 ∧ g = 24 - k ∧ i = .int .i64 k ∧ Hid (OwnI wr w1.heap.size (.slice (some ⟨w1.heap.size, 0, none⟩) 24 24) L ∧ L.length = 24 ∧ (∀ j, j < k → L[(j + h) % 24]?.getD 0 = l[j]?.getD 0) ∧ Below w.heap.size w wr) ∧ Hid (wr.heap[w2.heap.size]? = some (.cells #[.slice (some ⟨w1.heap.size, 0, none⟩) 24 24] 26 (0, 0)) ∧ wr.heap[w.heap.size + 1]? = some (.cells #[.slice none 0 0] 26 (0, 0))))
  case atStart =>
    refine ⟨0, List.replicate 24 0, Nat.zero_le _, rfl, rfl, hid ⟨HO.out.alloc _, by simp, fun j hj => absurd hj (by omega), (bstep HB1.out HB2.out).alloc (by have := HB1.out.size; have := HB2.out.size; omega) _⟩, hid ⟨heap_alloc_new _ _, ?_⟩⟩
    rw [Below.heap_alloc _ _ _ (by have := HB2.out.size; omega), HB2.out.block _ (by omega)]
    exact T1.out
  case round =>
    obtain ⟨k, L, hk, rfl, rfl, hh3, hbx⟩ := hrel
    have s1 := HB1.out.size
    have s2 := HB2.out.size
    have zb := (Array.getElem?_eq_some_iff.1 hbx.out.1).1
    have zr := (Array.getElem?_eq_some_iff.1 hbx.out.2).1
    have zw : w1.heap.size < w2.heap.size := (HO.out.lt _ rfl).2
    by_cases hlt : k < 24
    · have hm : (k + h) % 24 < 24 := Nat.mod_lt _ (by decide)
      obtain ⟨b, off, rfl, hbw, hcell⟩ := (H.out.below hh3.out.2.2.2).2 k hlt
      have x0 : wr.cell? ⟨w2.heap.size, 0, none⟩ = some (.slice (some ⟨w1.heap.size, 0, none⟩) 24 24) := by rw [cell_of_row wr _ _ _ _ (0, 0) hbx.out.1]; rfl
      have hcell2 := hh3.out.1.cell (k := (k + h) % 24) hm
      have hfr := hh3.out.1.frozen (k := (k + h) % 24)
      have e1 : ((k : Int) + (h : Int)).tmod 24 = (((k + h) % 24 : Nat) : Int) := by rw [Int.tmod_eq_emod_of_nonneg (by omega)]; omega
      have e2 : (((k : Int) + (h : Int)) % 24).toNat = (k + h) % 24 := by omega
      go_wp2
      go_roundg (24 - (k + 1))
      case rel =>
        have hs := hh3.out.1.set (k := (k + h) % 24) (l[k]?.getD 0)
        refine ⟨k + 1, L.set ((k + h) % 24) (l[k]?.getD 0), by omega, rfl, by go_num, hid ⟨hs.1, by rw [List.length_set]; exact hh3.out.2.1, ?_, hh3.out.2.2.2.grown hs.2 hh3.out.2.2.2.size (fun q hq => by simp at hq; omega)⟩, hid ⟨other_cell hbx.out.1 (by omega), other_cell hbx.out.2 (by omega)⟩⟩
        intro j hj
        have hl24 := hh3.out.2.1
        by_cases e : j = k
        · subst e; rw [List.getElem?_set_self (by omega)]; rfl
        · rw [List.getElem?_set_ne (by omega)]; exact hh3.out.2.2.1 j (by omega)
      case measure => omega
    · obtain rfl : k = 24 := by omega
      obtain rfl := shift_is hh2 hh3.out.2.1 hh3.out.2.2.1
      have x0 : wr.cell? ⟨w2.heap.size, 0, none⟩ = some (.slice (some ⟨w1.heap.size, 0, none⟩) 24 24) := by rw [cell_of_row wr _ _ _ _ (0, 0) hbx.out.1]; rfl
      have n0 : wr.cell? ⟨w.heap.size + 1, 0, none⟩ = some (.slice none 0 0) := by rw [cell_of_row wr _ _ _ _ (0, 0) hbx.out.2]; rfl
      have f0 := frozen_of_row wr _ 0 _ _ hbx.out.2
      go_wp2
      have e7 := heap_setCell_same _ _ 0 _ _ (.slice (some ⟨w1.heap.size, 0, none⟩) 24 24) hbx.out.2
      have u0 := cell_of_row _ _ 0 _ _ (0, 0) e7
      simp only [List.setIfInBounds_toArray, List.set_cons_zero, List.getElem?_toArray, List.getElem?_cons_zero] at u0
      refine bodyPost_ret (v := .tuple #[.agg #[.slice (some ⟨w1.heap.size, 0, none⟩) 24 24], .bool true]) (by simp [results, Try.results16, go_sem, *]) rfl ⟨_, _, rfl, ?_, ?_⟩
      · exact (hh3.out.1.far (by omega)).mono (by omega)
      · exact hh3.out.2.2.2.setCell (by show _ ≤ w.heap.size + 1; omega) _

end Go.Proofs.Ytpmffboojkfpdaa

/-
  Profiles: a shifted profile, in the reference.
-/
set_option linter.unusedVariables false
set_option linter.unusedSimpArgs false
namespace Go.Proofs.Ytpmffboojkfpdaa
open Go.RowKit

set_option maxRecDepth 100000 in
set_option maxHeartbeats 4000000 in
theorem s_ShiftProfile_yes (a : Option Addr) (n c h : Nat) (l : List Int) (w : World) (hA : IntsAt w a n l) (h1 : goodProf l = true) (h2 : inR (h : Int) 0 23 = true) :
    Calls Try.prog 14 #[.agg #[.slice a n c], .int .i64 h] w fun e w' => ∃ a' c', e = .returned (.tuple #[.agg #[.slice a' 24 c'], .bool true]) ∧ OwnI w' w.heap.size (.slice a' 24 c') (shiftL l h 24) ∧ Below w.heap.size w w' := by
  obtain ⟨i0, hi, hz0, hz1, hz2⟩ := info_parts Try.infoInt
  have hn : n = 24 := by have := hA.1; have := (goodProf_iff.1 h1).1; omega
  have hh := inR_iff.1 h2
  have H := hid hA
  have HG := hid h1
  have H2 := hid h2
  have HI := hid hi
  have HZ := hid hz0
  have HZ1 := hid hz1
  have HZ2 := hid hz2
  clear hA h1 h2 hi hz0 hz1 hz2
  subst hn
  have hh2 : h ≤ 23 := by omega
  obtain ⟨b, off, rfl, hbw0, -⟩ := H.out.2 0 (by decide)
  go_enter Try.func14, Try.ntmps14
  go_wp2_with fail
  refine (s_l6Good _ _ _ l _ (H.out.below (by go_grown)) (by omega)).mono ?_
  rintro e w1 ⟨rfl, hb1⟩
  rw [HG.out]
  have HB1 := hid (bstep (by go_grown) hb1 : Below w.heap.size w w1)
  have hz := hb1.size
  simp only [World.size_alloc] at hz
  have T1 := hid ((hb1.block (w.heap.size + 1) (by simp)).trans (last_newP (w.alloc _) _ _ (by simp)))
  have T0 := hid ((hb1.block w.heap.size (by simp <;> omega)).trans (mid_new w _ _ _ rfl))
  go_wp2_with fail
  refine (s_l6Hour _ _).mono ?_
  rintro e _ ⟨rfl, rfl⟩
  rw [H2.out]
  clear hb1
  have hz0 : w.heap.size < w1.heap.size := by omega
  go_wp2
  go_loopg [7] 24 (fun g i wr => ∃ (k : Nat) (a' : Option Addr) (c' : Nat), k ≤ 24 ∧ g = 24 - k ∧ i = .int .i64 k ∧ Hid (OwnI wr (w1.heap.size + 1) (.slice a' k c') (shiftL l h k) ∧ Below w.heap.size w wr) ∧ Hid (wr.heap[w1.heap.size]? = some (.cells #[.slice a' k c'] 26 (0, 0)) ∧ wr.heap[w.heap.size + 1]? = some (.cells #[.slice none 0 0] 26 (0, 0)) ∧ wr.heap[w.heap.size]? = some (.cells #[.slice (some ⟨b, off, none⟩) 24 c] 26 (0, 0))))
  case atStart =>
    refine ⟨0, none, 0, Nat.zero_le _, rfl, rfl, hid ⟨World.ownsRow_nil _ _ _ _, HB1.out.alloc HB1.out.size _⟩, hid ⟨heap_alloc_new _ _, ?_, ?_⟩⟩
    · rw [Below.heap_alloc _ _ _ (by omega)]; exact T1.out
    · rw [Below.heap_alloc _ _ _ (by omega)]; exact T0.out
  case round =>
    obtain ⟨k, a', c', hk, rfl, rfl, hh3, hbx⟩ := hrel
    have s1 := HB1.out.size
    have zb := (Array.getElem?_eq_some_iff.1 hbx.out.1).1
    have zr := (Array.getElem?_eq_some_iff.1 hbx.out.2.1).1
    by_cases hlt : k < 24
    · have hm : (k + 24 - h) % 24 < 24 := Nat.mod_lt _ (by decide)
      obtain ⟨_, _, e0, hbw, hcell⟩ := (H.out.below hh3.out.2).2 ((k + 24 - h) % 24) hm
      cases e0
      have x6 : wr.cell? ⟨w1.heap.size, 0, none⟩ = some (.slice a' k c') := by rw [cell_of_row wr _ _ _ _ (0, 0) hbx.out.1]; rfl
      have x2 : wr.cell? ⟨w.heap.size, 0, none⟩ = some (.slice (some ⟨b, off, none⟩) 24 c) := by rw [cell_of_row wr _ _ _ _ (0, 0) hbx.out.2.2]; rfl
      have f6 := frozen_of_row wr _ 0 _ _ hbx.out.1
      have hlk := hid (shiftL_len l h k)
      have hne := hid (show Value.ownBlock (.slice a' k c') ≠ some w1.heap.size from fun e => by have := (hh3.out.1.lt _ e).1; omega)
      have hw1 : IntKind.i64.wrap ((k : Int) + 24) = (k : Int) + 24 := IntWalk.i64_in _ (by omega)
      have hw2 : IntKind.i64.wrap ((k : Int) + 24 - (h : Int)) = (k : Int) + 24 - (h : Int) := IntWalk.i64_in _ (by omega)
      have e1 : ((k : Int) + 24 - (h : Int)).tmod 24 = (((k + 24 - h) % 24 : Nat) : Int) := by rw [Int.tmod_eq_emod_of_nonneg (by omega)]; omega
      have e3 : (0 : Int) ≤ ((k + 24 - h : Nat) : Int) % 24 := by omega
      have e4 : ((k + 24 - h : Nat) : Int) % 24 < 24 := by omega
      have e5 : (((k + 24 - h : Nat) : Int) % 24).toNat = (k + 24 - h) % 24 := by omega
      go_upto_region 7 with fail
      go_region_law (refine step_append_lies _ (by rfl) _ _ _ (by rfl) (w1.heap.size + 1) 3 i0 _ 1 8 Try.underlying22 HI.out HZ.out HZ1.out HZ2.out rfl (by omega) _ k _ (by rfl) (by have := (hh3.out.1.alloc (.cells #[.int .i64 (l[(k + 24 - h) % 24]?.getD 0)] 3)).drew; unfold OwnI at this; rw [hlk.out] at this; exact this) ⟨wr.heap.size, 0, none⟩ 1 1 [.int .i64 (l[(k + 24 - h) % 24]?.getD 0)] (by rfl) (by rfl) (World.news_of_block (cs := #[.int .i64 (l[(k + 24 - h) % 24]?.getD 0)]) (t := 3) (fr := (0, 0)) (heap_alloc_new wr _)) (by simp [Value.oneCell']) (by omega) (by unfold maxLen; omega) (by omega) (by simp; omega) (wr.heap.size + 1) (by simp) ?_; intro gg cap w2 hown hgrow hblk hlt2; have y6 := (hgrow.cell_far ⟨w1.heap.size, 0, none⟩ (by simp; omega) (Ne.symm hne.out)); have g6 := (hgrow.frozen_far ⟨w1.heap.size, 0, none⟩ (by simp; omega) (Ne.symm hne.out)))
      all_goals
        have hgr : ((wr.alloc (.cells #[.int .i64 (l[(k + 24 - h) % 24]?.getD 0)] 3)).drew).grownBy w2 (Value.ownBlock (.slice a' k c')) := hgrow
        have HO : OwnI w2 (w1.heap.size + 1) (.slice (some ⟨gg, 0, none⟩) (k + 1) cap) (shiftL l h (k + 1)) := by
          unfold OwnI
          rw [shiftL_succ, List.map_append, List.length_append, hlk.out]
          exact hown
        have hlt9 : ∀ q, Value.ownBlock (.slice a' k c') = some q → w1.heap.size + 1 ≤ q := fun q hq => (hh3.out.1.lt q hq).1
        have R1 : w2.heap[w1.heap.size]? = some (.cells #[.slice a' k c'] 26 (0, 0)) := (hgr.block _ (by simp; omega) (fun e => by have := hlt9 _ e.symm; omega)).trans ((Below.heap_alloc _ _ _ (by omega)).trans hbx.out.1)
        have R2 : w2.heap[w.heap.size + 1]? = some (.cells #[.slice none 0 0] 26 (0, 0)) := (hgr.block _ (by simp; omega) (fun e => by have := hlt9 _ e.symm; omega)).trans ((Below.heap_alloc _ _ _ (by omega)).trans hbx.out.2.1)
        have R3 : w2.heap[w.heap.size]? = some (.cells #[.slice (some ⟨b, off, none⟩) 24 c] 26 (0, 0)) := (hgr.block _ (by simp; omega) (fun e => by have := hlt9 _ e.symm; omega)).trans ((Below.heap_alloc _ _ _ (by omega)).trans hbx.out.2.2)
        have HB : Hid (Below w.heap.size w (w2.setCell ⟨w1.heap.size, 0, none⟩ (.slice (some ⟨gg, 0, none⟩) (k + 1) cap))) := hid (((bstep hh3.out.2 (by go_grown : Below wr.heap.size wr ((wr.alloc (.cells #[.int .i64 (l[(k + 24 - h) % 24]?.getD 0)] 3)).drew))).grown hgr (by have := hh3.out.2.size; simp; omega) (fun q hq => by have := hlt9 _ hq; omega)).setCell (by show _ ≤ w1.heap.size; omega) _)
        have HOO := hid (HO.far (b := w1.heap.size) (o := 0) (u := .slice (some ⟨gg, 0, none⟩) (k + 1) cap) (by omega))
        have RR1 := heap_setCell_same w2 _ 0 _ _ (.slice (some ⟨gg, 0, none⟩) (k + 1) cap) R1
        simp only [List.setIfInBounds_toArray, List.set_cons_zero] at RR1
        have RR := hid (And.intro RR1 (And.intro (other_cell (b := w1.heap.size) (o := 0) (u := .slice (some ⟨gg, 0, none⟩) (k + 1) cap) R2 (by omega)) (other_cell (b := w1.heap.size) (o := 0) (u := .slice (some ⟨gg, 0, none⟩) (k + 1) cap) R3 (by omega))))
        clear hown hgrow hblk hgr HO R1 R2 R3 RR1 y6 g6 x6 x2 f6 hw1 hw2 e1 e3 e4 e5 hcell
        go_wp2
        go_roundg (24 - (k + 1))
        case rel => exact ⟨k + 1, _, _, by omega, rfl, by go_num, hid ⟨HOO.out, HB.out⟩, RR⟩
        case measure => omega
    · obtain rfl : k = 24 := by omega
      have x0 : wr.cell? ⟨w1.heap.size, 0, none⟩ = some (.slice a' 24 c') := by rw [cell_of_row wr _ _ _ _ (0, 0) hbx.out.1]; rfl
      have n0 : wr.cell? ⟨w.heap.size + 1, 0, none⟩ = some (.slice none 0 0) := by rw [cell_of_row wr _ _ _ _ (0, 0) hbx.out.2.1]; rfl
      have f0 := frozen_of_row wr _ 0 _ _ hbx.out.2.1
      go_wp2
      have e7 := heap_setCell_same _ _ 0 _ _ (.slice a' 24 c') hbx.out.2.1
      have u0 := cell_of_row _ _ 0 _ _ (0, 0) e7
      simp only [List.setIfInBounds_toArray, List.set_cons_zero, List.getElem?_toArray, List.getElem?_cons_zero] at u0
      refine bodyPost_ret (v := .tuple #[.agg #[.slice a' 24 c'], .bool true]) (by simp [results, Try.results14, go_sem, *]) rfl ⟨_, _, rfl, ?_, ?_⟩
      · exact (hh3.out.1.far (by omega)).mono (by omega)
      · exact hh3.out.2.setCell (by show _ ≤ w.heap.size + 1; omega) _

end Go.Proofs.Ytpmffboojkfpdaa

/-
  Profiles: ShiftProfile; marks on a profile.
-/
set_option linter.unusedVariables false
set_option linter.unusedSimpArgs false
namespace Go.Proofs.Ytpmffboojkfpdaa
open Go.RowKit

/-- What ShiftProfile returns. -/
def shiftR (l : List Int) (h : Int) : List Int × Bool := if goodProf l = true ∧ inR h 0 23 = true then (shiftL l h.toNat 24, true) else ([], false)
theorem shiftR_len {l R : List Int} {h : Int} {b : Bool} (e : shiftR l h = (R, b)) : R.length ≤ 24 := by
  unfold shiftR at e
  split at e
  · cases e; rw [shiftL_len]; exact Nat.le_refl _
  · cases e; exact Nat.zero_le _

set_option maxRecDepth 100000 in
theorem i_ShiftProfile_no (a : Option Addr) (n c : Nat) (h : Int) (l : List Int) (w : World) (hA : IntsAt w a n l) (hn : n ≤ 1048576) (hv : (goodProf l && inR h 0 23) = false) :
    Calls Try.prog 16 #[.agg #[.slice a n c], .int .i64 h] w fun e w' => ∃ a' c', e = .returned (.tuple #[.agg #[.slice a' 0 c'], .bool false]) ∧ OwnI w' w.heap.size (.slice a' 0 c') [] ∧ Below w.heap.size w w' := by
  have H := hid hA
  clear hA
  cases h1 : goodProf l
  · have HG := hid h1
    clear h1 hv
    go_enter Try.func16, Try.ntmps16
    go_wp2_with fail
    refine (i_IsValidProfile _ _ _ l _ (H.out.below (by go_grown)) (by omega)).mono ?_
    rintro e w1 ⟨rfl, hb1⟩
    rw [HG.out]
    have HB1 := hid (bstep (by go_grown) hb1 : Below w.heap.size w w1)
    have hz := hb1.size
    simp only [World.size_alloc] at hz
    have T1 := hid ((hb1.block (w.heap.size + 1) (by simp)).trans (last_newP (w.alloc _) _ _ (by simp)))
    have hz1 : w.heap.size + 1 < w1.heap.size := by omega
    have n0 : w1.cell? ⟨w.heap.size + 1, 0, none⟩ = some (.slice none 0 0) := by rw [cell_of_row w1 _ _ _ _ (0, 0) T1.out]; rfl
    have f0 := frozen_of_row w1 _ 0 _ _ T1.out
    clear hb1
    go_wp2
    have e7 := heap_setCell_same _ _ 0 _ _ (.slice none 0 0) T1.out
    have u0 := cell_of_row _ _ 0 _ _ (0, 0) e7
    simp only [List.setIfInBounds_toArray, List.set_cons_zero, List.getElem?_toArray, List.getElem?_cons_zero] at u0
    refine bodyPost_ret (v := .tuple #[.agg #[.slice none 0 0], .bool false]) (by simp [results, Try.results16, go_sem, *]) rfl ⟨_, _, rfl, World.ownsRow_nil _ _ _ _, HB1.out.setCell (by show _ ≤ w.heap.size + 1; omega) _⟩
  · have HG := hid h1
    have H2 : Hid (inR h 0 23 = false) := hid (by rw [h1] at hv; exact hv)
    clear h1 hv
    go_enter Try.func16, Try.ntmps16
    go_wp2_with fail
    refine (i_IsValidProfile _ _ _ l _ (H.out.below (by go_grown)) (by omega)).mono ?_
    rintro e w1 ⟨rfl, hb1⟩
    rw [HG.out]
    have HB1 := hid (bstep (by go_grown) hb1 : Below w.heap.size w w1)
    have hz := hb1.size
    simp only [World.size_alloc] at hz
    have T1 := hid ((hb1.block (w.heap.size + 1) (by simp)).trans (last_newP (w.alloc _) _ _ (by simp)))
    have hz1 : w.heap.size + 1 < w1.heap.size := by omega
    have n0 : w1.cell? ⟨w.heap.size + 1, 0, none⟩ = some (.slice none 0 0) := by rw [cell_of_row w1 _ _ _ _ (0, 0) T1.out]; rfl
    have f0 := frozen_of_row w1 _ 0 _ _ T1.out
    clear hb1
    go_wp2_with fail
    refine (i_isHour _ _).mono ?_
    rintro e _ ⟨rfl, rfl⟩
    rw [H2.out]
    go_wp2
    have e7 := heap_setCell_same _ _ 0 _ _ (.slice none 0 0) T1.out
    have u0 := cell_of_row _ _ 0 _ _ (0, 0) e7
    simp only [List.setIfInBounds_toArray, List.set_cons_zero, List.getElem?_toArray, List.getElem?_cons_zero] at u0
    refine bodyPost_ret (v := .tuple #[.agg #[.slice none 0 0], .bool false]) (by simp [results, Try.results16, go_sem, *]) rfl ⟨_, _, rfl, World.ownsRow_nil _ _ _ _, HB1.out.setCell (by show _ ≤ w.heap.size + 1; omega) _⟩

theorem i_ShiftProfile (a : Option Addr) (n c : Nat) (h : Int) (l : List Int) (w : World) (hA : IntsAt w a n l) (hn : n ≤ 1048576) (R : List Int) (b : Bool) (hR : shiftR l h = (R, b)) :
    Calls Try.prog 16 #[.agg #[.slice a n c], .int .i64 h] w fun e w' => ∃ a' c', e = .returned (.tuple #[.agg #[.slice a' R.length c'], .bool b]) ∧ OwnI w' w.heap.size (.slice a' R.length c') R ∧ Below w.heap.size w w' := by
  by_cases hv : (goodProf l && inR h 0 23) = true
  · obtain ⟨h1, h2⟩ := (Bool.and_eq_true _ _).mp hv
    obtain ⟨k, rfl⟩ : ∃ k : Nat, h = k := ⟨h.toNat, by have := inR_iff.1 h2; omega⟩
    have e0 : shiftR l k = (shiftL l k 24, true) := by unfold shiftR; rw [if_pos ⟨h1, h2⟩]; rfl
    rw [e0] at hR
    cases hR
    rw [shiftL_len]
    exact i_ShiftProfile_yes a n c k l w hA h1 h2
  · have hv' : (goodProf l && inR h 0 23) = false := by simpa using hv
    have e0 : shiftR l h = ([], false) := by
      unfold shiftR
      rw [if_neg]
      rintro ⟨x, y⟩
      rw [x, y] at hv'
      cases hv'
    rw [e0] at hR
    cases hR
    exact i_ShiftProfile_no a n c h l w hA hn hv'
set_option maxRecDepth 100000 in
theorem s_ShiftProfile_no (a : Option Addr) (n c : Nat) (h : Int) (l : List Int) (w : World) (hA : IntsAt w a n l) (hn : n ≤ 1048576) (hv : (goodProf l && inR h 0 23) = false) :
    Calls Try.prog 14 #[.agg #[.slice a n c], .int .i64 h] w fun e w' => ∃ a' c', e = .returned (.tuple #[.agg #[.slice a' 0 c'], .bool false]) ∧ OwnI w' w.heap.size (.slice a' 0 c') [] ∧ Below w.heap.size w w' := by
  have H := hid hA
  clear hA
  cases h1 : goodProf l
  · have HG := hid h1
    clear h1 hv
    go_enter Try.func14, Try.ntmps14
    go_wp2_with fail
    refine (s_l6Good _ _ _ l _ (H.out.below (by go_grown)) (by omega)).mono ?_
    rintro e w1 ⟨rfl, hb1⟩
    rw [HG.out]
    have HB1 := hid (bstep (by go_grown) hb1 : Below w.heap.size w w1)
    have hz := hb1.size
    simp only [World.size_alloc] at hz
    have T1 := hid ((hb1.block (w.heap.size + 1) (by simp)).trans (last_newP (w.alloc _) _ _ (by simp)))
    have hz1 : w.heap.size + 1 < w1.heap.size := by omega
    have n0 : w1.cell? ⟨w.heap.size + 1, 0, none⟩ = some (.slice none 0 0) := by rw [cell_of_row w1 _ _ _ _ (0, 0) T1.out]; rfl
    have f0 := frozen_of_row w1 _ 0 _ _ T1.out
    clear hb1
    go_wp2
    have e7 := heap_setCell_same _ _ 0 _ _ (.slice none 0 0) T1.out
    have u0 := cell_of_row _ _ 0 _ _ (0, 0) e7
    simp only [List.setIfInBounds_toArray, List.set_cons_zero, List.getElem?_toArray, List.getElem?_cons_zero] at u0
    refine bodyPost_ret (v := .tuple #[.agg #[.slice none 0 0], .bool false]) (by simp [results, Try.results14, go_sem, *]) rfl ⟨_, _, rfl, World.ownsRow_nil _ _ _ _, HB1.out.setCell (by show _ ≤ w.heap.size + 1; omega) _⟩
  · have HG := hid h1
    have H2 : Hid (inR h 0 23 = false) := hid (by rw [h1] at hv; exact hv)
    clear h1 hv
    go_enter Try.func14, Try.ntmps14
    go_wp2_with fail
    refine (s_l6Good _ _ _ l _ (H.out.below (by go_grown)) (by omega)).mono ?_
    rintro e w1 ⟨rfl, hb1⟩
    rw [HG.out]
    have HB1 := hid (bstep (by go_grown) hb1 : Below w.heap.size w w1)
    have hz := hb1.size
    simp only [World.size_alloc] at hz
    have T1 := hid ((hb1.block (w.heap.size + 1) (by simp)).trans (last_newP (w.alloc _) _ _ (by simp)))
    have hz1 : w.heap.size + 1 < w1.heap.size := by omega
    have n0 : w1.cell? ⟨w.heap.size + 1, 0, none⟩ = some (.slice none 0 0) := by rw [cell_of_row w1 _ _ _ _ (0, 0) T1.out]; rfl
    have f0 := frozen_of_row w1 _ 0 _ _ T1.out
    clear hb1
    go_wp2_with fail
    refine (s_l6Hour _ _).mono ?_
    rintro e _ ⟨rfl, rfl⟩
    rw [H2.out]
    go_wp2
    have e7 := heap_setCell_same _ _ 0 _ _ (.slice none 0 0) T1.out
    have u0 := cell_of_row _ _ 0 _ _ (0, 0) e7
    simp only [List.setIfInBounds_toArray, List.set_cons_zero, List.getElem?_toArray, List.getElem?_cons_zero] at u0
    refine bodyPost_ret (v := .tuple #[.agg #[.slice none 0 0], .bool false]) (by simp [results, Try.results14, go_sem, *]) rfl ⟨_, _, rfl, World.ownsRow_nil _ _ _ _, HB1.out.setCell (by show _ ≤ w.heap.size + 1; omega) _⟩

theorem s_ShiftProfile (a : Option Addr) (n c : Nat) (h : Int) (l : List Int) (w : World) (hA : IntsAt w a n l) (hn : n ≤ 1048576) (R : List Int) (b : Bool) (hR : shiftR l h = (R, b)) :
    Calls Try.prog 14 #[.agg #[.slice a n c], .int .i64 h] w fun e w' => ∃ a' c', e = .returned (.tuple #[.agg #[.slice a' R.length c'], .bool b]) ∧ OwnI w' w.heap.size (.slice a' R.length c') R ∧ Below w.heap.size w w' := by
  by_cases hv : (goodProf l && inR h 0 23) = true
  · obtain ⟨h1, h2⟩ := (Bool.and_eq_true _ _).mp hv
    obtain ⟨k, rfl⟩ : ∃ k : Nat, h = k := ⟨h.toNat, by have := inR_iff.1 h2; omega⟩
    have e0 : shiftR l k = (shiftL l k 24, true) := by unfold shiftR; rw [if_pos ⟨h1, h2⟩]; rfl
    rw [e0] at hR
    cases hR
    rw [shiftL_len]
    exact s_ShiftProfile_yes a n c k l w hA h1 h2
  · have hv' : (goodProf l && inR h 0 23) = false := by simpa using hv
    have e0 : shiftR l h = ([], false) := by
      unfold shiftR
      rw [if_neg]
      rintro ⟨x, y⟩
      rw [x, y] at hv'
      cases hv'
    rw [e0] at hR
    cases hR
    exact s_ShiftProfile_no a n c h l w hA hn hv'

theorem l_markDayProfile (a : Option Addr) (n c B : Nat) (l : List Int) (k0 : Int) (w : World) (h : OwnI w B (.slice a n c) l) (hn : n ≤ 1048576) (hk : 0 ≤ k0 ∧ k0 ≤ 1000000000000) :
    Calls Try.prog 18 #[.agg #[.slice a n c], .int .i64 k0] w fun e w' => e = .returned (.int .i64 (k0 + n)) ∧ OwnI w' B (.slice a n c) (marks k0 n) ∧ w.grownBy w' (Value.ownBlock (.slice a n c)) := by
  have H := hid h
  clear h
  go_enter Try.func18, Try.ntmps18
  go_wp2_with fail
  refine (l_markIntS _ _ _ B l _ _ (H.out.alloc _) (by omega) hk).mono ?_
  rintro e w1 ⟨rfl, ho, hg⟩
  have HO := hid ho
  have HG := hid (grownBy_trans (grown_of_below ((Below.refl w.heap.size w).alloc (Nat.le_refl _) _) _) hg)
  clear ho hg
  go_wp2
  go_ret
  exact ⟨rfl, HO.out, HG.out⟩

theorem l_heldDayProfile (a : Option Addr) (n c : Nat) (k0 : Int) (w : World) (h : IntsAt w a n (marks k0 n)) (hn : n ≤ 1048576) (hk : 0 ≤ k0 ∧ k0 ≤ 1000000000000) :
    Calls Try.prog 19 #[.agg #[.slice a n c], .int .i64 k0] w fun e w' => e = .returned (.int .i64 (k0 + n)) ∧ Below w.heap.size w w' := by
  have H := hid h
  clear h
  go_enter Try.func19, Try.ntmps19
  go_wp2_with fail
  refine (l_heldIntS _ _ _ _ _ (H.out.below (by go_grown)) (by omega) hk).mono ?_
  rintro e _ ⟨rfl, rfl⟩
  go_wp2
  go_ret
  exact ⟨rfl, by go_grown⟩

end Go.Proofs.Ytpmffboojkfpdaa

