/-
  Profiles: the storage that evens out a day.
-/
import Derived.Test.YtpmffboojkfpdaaProfA
set_option linter.unusedVariables false
set_option linter.unusedSimpArgs false
namespace Go.Proofs.Ytpmffboojkfpdaa
open Go.RowKit

/-- What has been stored behind some hours. -/
def pre (l : List Int) (k : Nat) : Int := 100 * (k : Int) - (l.take k).sum
theorem pre_succ (l : List Int) (k : Nat) (hk : k < l.length) : pre l (k + 1) = pre l k + (100 - l[k]?.getD 0) := by
  unfold pre
  rw [sum_take_succ l k hk]
  push_cast
  omega
theorem pre_fit {l : List Int} (h : goodProf l = true) (k : Nat) (hk : k ≤ 24) : -21600 ≤ pre l k ∧ pre l k ≤ 2400 := by
  have hg := goodProf_iff.1 h
  have := sum_fit (l := l.take k) (B := 1000) (by decide) (fun x hx => hg.2.1 x (List.mem_of_mem_take hx))
  have hl : (l.take k).length = k := by rw [List.length_take]; omega
  rw [hl] at this
  unfold pre
  omega
def sumsL (l : List Int) (k : Nat) : List Int := (List.range k).map fun i => pre l (i + 1)
theorem sumsL_succ (l : List Int) (k : Nat) : sumsL l (k + 1) = sumsL l k ++ [pre l (k + 1)] := by simp [sumsL, List.range_succ]
theorem sumsL_len (l : List Int) (k : Nat) : (sumsL l k).length = k := by simp [sumsL]
def mxTo (l : List Int) : Nat → Int
  | 0 => -24000
  | k + 1 => max (mxTo l k) (pre l (k + 1))
def mnTo (l : List Int) : Nat → Int
  | 0 => 2400
  | k + 1 => min (mnTo l k) (pre l (k + 1))
theorem mx_ub (l : List Int) : ∀ k, ∀ x ∈ sumsL l k, x ≤ mxTo l k
  | 0, x, hx => by simp [sumsL] at hx
  | k + 1, x, hx => by
    rw [sumsL_succ, List.mem_append, List.mem_singleton] at hx
    simp only [mxTo]
    rcases hx with hx | rfl
    · have := mx_ub l k x hx; omega
    · omega
theorem mn_lb (l : List Int) : ∀ k, ∀ x ∈ sumsL l k, mnTo l k ≤ x
  | 0, x, hx => by simp [sumsL] at hx
  | k + 1, x, hx => by
    rw [sumsL_succ, List.mem_append, List.mem_singleton] at hx
    simp only [mnTo]
    rcases hx with hx | rfl
    · have := mn_lb l k x hx; omega
    · omega
theorem mx_mem {l : List Int} (h : goodProf l = true) : ∀ k, k ≤ 24 → mxTo l k = -24000 ∨ mxTo l k ∈ sumsL l k
  | 0, _ => .inl rfl
  | k + 1, hk => by
    have hp := pre_fit h (k + 1) hk
    rw [sumsL_succ, List.mem_append, List.mem_singleton]
    simp only [mxTo]
    by_cases hle : mxTo l k ≤ pre l (k + 1)
    · exact .inr (.inr (by omega))
    · rcases mx_mem h k (by omega) with e | e
      · omega
      · exact .inr (.inl (by rw [show max (mxTo l k) (pre l (k + 1)) = mxTo l k by omega]; exact e))
theorem mn_mem {l : List Int} (h : goodProf l = true) : ∀ k, 1 ≤ k → k ≤ 24 → mnTo l k ∈ sumsL l k
  | 0, h1, _ => by omega
  | k + 1, _, hk => by
    have hp := pre_fit h (k + 1) hk
    rw [sumsL_succ, List.mem_append, List.mem_singleton]
    simp only [mnTo]
    by_cases hle : pre l (k + 1) ≤ mnTo l k
    · exact .inr (by omega)
    · by_cases h0 : k = 0
      · subst h0; simp only [mnTo] at hle; simp only [Nat.zero_add] at hle hp; omega
      · exact .inl (by rw [show min (mnTo l k) (pre l (k + 1)) = mnTo l k by omega]; exact mn_mem h k (by omega) (by omega))
theorem mx_fit {l : List Int} (h : goodProf l = true) (k : Nat) (hk : k ≤ 24) : -24000 ≤ mxTo l k ∧ mxTo l k ≤ 2400 := by
  induction k with
  | zero => simp [mxTo]
  | succ k ih =>
    have := ih (by omega)
    have := pre_fit h (k + 1) hk
    simp only [mxTo]
    omega
theorem mn_fit {l : List Int} (h : goodProf l = true) (k : Nat) (hk : k ≤ 24) : -24000 ≤ mnTo l k ∧ mnTo l k ≤ 2400 := by
  induction k with
  | zero => simp [mnTo]
  | succ k ih =>
    have := ih (by omega)
    have := pre_fit h (k + 1) hk
    simp only [mnTo]
    omega
theorem mx_is {l : List Int} (h : goodProf l = true) {r : Int} (h1 : r ∈ sumsL l 24) (h2 : ∀ x ∈ sumsL l 24, x ≤ r) : r = mxTo l 24 := by
  have a := mx_ub l 24 r h1
  have hp := pre_fit h 1 (by omega)
  have hm : pre l 1 ∈ sumsL l 24 := by
    simp only [sumsL, List.mem_map, List.mem_range]
    exact ⟨0, by decide, rfl⟩
  have b := mx_ub l 24 _ hm
  rcases mx_mem h 24 (by omega) with e | e
  · omega
  · have := h2 _ e; omega
theorem mn_is {l : List Int} (h : goodProf l = true) {r : Int} (h1 : r ∈ sumsL l 24) (h2 : ∀ x ∈ sumsL l 24, r ≤ x) : r = mnTo l 24 := by
  have a := mn_lb l 24 r h1
  have := h2 _ (mn_mem h 24 (by omega) (by omega))
  omega

theorem f_Max (a : Option Addr) (n c : Nat) (l : List Int) (w : World) (h : IntsAt w a n l) (hn1 : 1 ≤ n) (hn : n ≤ 4194304) :
    Calls Try.prog 80 #[.slice a n c] w fun e w' => (∃ r, e = .returned (.int .i64 r) ∧ r ∈ l ∧ ∀ x ∈ l, x ≤ r) ∧ w = w' := by
  have hl := h.1
  obtain ⟨b0, off0, rfl, hbw0, hcell0⟩ := h.2 0 (by omega)
  simp only [Nat.add_zero] at hcell0
  have H := hid h
  have HL := hid hl
  clear h hl
  go_enter Try.func80, Try.ntmps80
  go_wp2
  go_loopg [3, 4] (n - 1) (fun g m i wr => ∃ (k : Nat) (r : Int), 1 ≤ k ∧ k ≤ n ∧ g = n - k ∧ i = .int .i64 k ∧ m = .int .i64 r ∧ w = wr ∧ Hid (r ∈ l.take k ∧ ∀ x ∈ l.take k, x ≤ r))
  case atStart =>
    have e : l.take 1 = [l[0]?.getD 0] := by rw [take_succ' l 0 (by have := HL.out; omega)]; simp
    exact ⟨1, _, by omega, hn1, rfl, rfl, rfl, rfl, by rw [e]; simp, by rw [e]; intro x hx; simp at hx; omega⟩
  case round =>
    obtain ⟨k, r, hk1, hk, rfl, rfl, rfl, rfl, hh⟩ := hrel
    by_cases hlt : k < n
    · obtain ⟨_, _, e1, hbw, hcell⟩ := H.out.2 k hlt
      cases e1
      have HN : Hid (max r (l[k]?.getD 0) ∈ l.take (k + 1) ∧ ∀ x ∈ l.take (k + 1), (fun r => x ≤ r) (max r (l[k]?.getD 0))) := by
        rw [take_succ' l k (by have := HL.out; omega)]
        refine ⟨?_, ?_⟩
        · rw [List.mem_append, List.mem_singleton]
          by_cases hle : max r (l[k]?.getD 0) = r
          · exact .inl (by rw [hle]; exact hh.out.1)
          · exact .inr (by omega)
        · intro x hx
          rw [List.mem_append, List.mem_singleton] at hx
          rcases hx with hx | rfl
          · have := hh.out.2 x hx
            show _ ≤ _
            omega
          · show _ ≤ _
            omega
      go_wp2
      all_goals go_roundg (n - (k + 1))
      all_goals first
        | omega
        | (refine ⟨k + 1, max r (l[k]?.getD 0), by omega, by omega, rfl, by go_num, ?_, rfl, HN⟩; first | rfl | (congr 1; omega))
    · obtain rfl : k = n := by omega
      go_wp2
      go_ret
      have e := hh.out
      rw [List.take_of_length_le (by have := HL.out; omega)] at e
      exact ⟨⟨r, rfl, e.1, e.2⟩, rfl⟩
theorem f_Min (a : Option Addr) (n c : Nat) (l : List Int) (w : World) (h : IntsAt w a n l) (hn1 : 1 ≤ n) (hn : n ≤ 4194304) :
    Calls Try.prog 81 #[.slice a n c] w fun e w' => (∃ r, e = .returned (.int .i64 r) ∧ r ∈ l ∧ ∀ x ∈ l, r ≤ x) ∧ w = w' := by
  have hl := h.1
  obtain ⟨b0, off0, rfl, hbw0, hcell0⟩ := h.2 0 (by omega)
  simp only [Nat.add_zero] at hcell0
  have H := hid h
  have HL := hid hl
  clear h hl
  go_enter Try.func81, Try.ntmps81
  go_wp2
  go_loopg [3, 4] (n - 1) (fun g m i wr => ∃ (k : Nat) (r : Int), 1 ≤ k ∧ k ≤ n ∧ g = n - k ∧ i = .int .i64 k ∧ m = .int .i64 r ∧ w = wr ∧ Hid (r ∈ l.take k ∧ ∀ x ∈ l.take k, r ≤ x))
  case atStart =>
    have e : l.take 1 = [l[0]?.getD 0] := by rw [take_succ' l 0 (by have := HL.out; omega)]; simp
    exact ⟨1, _, by omega, hn1, rfl, rfl, rfl, rfl, by rw [e]; simp, by rw [e]; intro x hx; simp at hx; omega⟩
  case round =>
    obtain ⟨k, r, hk1, hk, rfl, rfl, rfl, rfl, hh⟩ := hrel
    by_cases hlt : k < n
    · obtain ⟨_, _, e1, hbw, hcell⟩ := H.out.2 k hlt
      cases e1
      have HN : Hid (min r (l[k]?.getD 0) ∈ l.take (k + 1) ∧ ∀ x ∈ l.take (k + 1), (fun r => r ≤ x) (min r (l[k]?.getD 0))) := by
        rw [take_succ' l k (by have := HL.out; omega)]
        refine ⟨?_, ?_⟩
        · rw [List.mem_append, List.mem_singleton]
          by_cases hle : min r (l[k]?.getD 0) = r
          · exact .inl (by rw [hle]; exact hh.out.1)
          · exact .inr (by omega)
        · intro x hx
          rw [List.mem_append, List.mem_singleton] at hx
          rcases hx with hx | rfl
          · have := hh.out.2 x hx
            show _ ≤ _
            omega
          · show _ ≤ _
            omega
      go_wp2
      all_goals go_roundg (n - (k + 1))
      all_goals first
        | omega
        | (refine ⟨k + 1, min r (l[k]?.getD 0), by omega, by omega, rfl, by go_num, ?_, rfl, HN⟩; first | rfl | (congr 1; omega))
    · obtain rfl : k = n := by omega
      go_wp2
      go_ret
      have e := hh.out
      rw [List.take_of_length_le (by have := HL.out; omega)] at e
      exact ⟨⟨r, rfl, e.1, e.2⟩, rfl⟩

theorem i_StorageFor_no (a : Option Addr) (n c : Nat) (base : Int) (l : List Int) (w : World) (h : IntsAt w a n l) (hn : n ≤ 1048576) (hv : (goodProf l && inR base 0 100000) = false) :
    Calls Try.prog 25 #[.agg #[.slice a n c], .int .i64 base] w fun e w' => e = .returned (.tuple #[.int .i64 0, .int .i64 0, .bool false]) ∧ Below w.heap.size w w' := by
  have H := hid h
  clear h
  cases h1 : goodProf l
  · have HG := hid h1
    clear h1 hv
    go_enter Try.func25, Try.ntmps25
    go_wp2_with fail
    refine (i_IsValidProfile _ _ _ l _ (H.out.below (by go_grown)) (by omega)).mono ?_
    rintro e w1 ⟨rfl, hb1⟩
    rw [HG.out]
    obtain ⟨hc_w1, hf_w1⟩ := bcell hb1
    have hz_w1_0 : w.heap.size < w1.heap.size := by have := hb1.size; simp only [World.size_alloc] at this; omega
    have HB1 := hid (bstep (by go_grown) hb1 : Below w.heap.size w w1)
    go_wp2
    go_ret3
    exact ⟨rfl, HB1.out⟩
  · have HG := hid h1
    have H2 : Hid (inR base 0 100000 = false) := hid (by rw [h1] at hv; exact hv)
    clear h1 hv
    go_enter Try.func25, Try.ntmps25
    go_wp2_with fail
    refine (i_IsValidProfile _ _ _ l _ (H.out.below (by go_grown)) (by omega)).mono ?_
    rintro e w1 ⟨rfl, hb1⟩
    rw [HG.out]
    obtain ⟨hc_w1, hf_w1⟩ := bcell hb1
    have hz_w1_0 : w.heap.size < w1.heap.size := by have := hb1.size; simp only [World.size_alloc] at this; omega
    have HB1 := hid (bstep (by go_grown) hb1 : Below w.heap.size w w1)
    go_wp2_with fail
    refine (i_isBase _ _).mono ?_
    rintro e _ ⟨rfl, rfl⟩
    rw [H2.out]
    go_wp2
    go_ret3
    exact ⟨rfl, HB1.out⟩
theorem s_StorageFor_no (a : Option Addr) (n c : Nat) (base : Int) (l : List Int) (w : World) (h : IntsAt w a n l) (hn : n ≤ 1048576) (hv : (goodProf l && inR base 0 100000) = false) :
    Calls Try.prog 24 #[.agg #[.slice a n c], .int .i64 base] w fun e w' => e = .returned (.tuple #[.int .i64 0, .int .i64 0, .bool false]) ∧ Below w.heap.size w w' := by
  have H := hid h
  clear h
  cases h1 : goodProf l
  · have HG := hid h1
    clear h1 hv
    go_enter Try.func24, Try.ntmps24
    go_wp2_with fail
    refine (s_l6Good _ _ _ l _ (H.out.below (by go_grown)) (by omega)).mono ?_
    rintro e w1 ⟨rfl, hb1⟩
    rw [HG.out]
    obtain ⟨hc_w1, hf_w1⟩ := bcell hb1
    have hz_w1_0 : w.heap.size < w1.heap.size := by have := hb1.size; simp only [World.size_alloc] at this; omega
    have HB1 := hid (bstep (by go_grown) hb1 : Below w.heap.size w w1)
    go_wp2
    go_ret3
    exact ⟨rfl, HB1.out⟩
  · have HG := hid h1
    have H2 : Hid (inR base 0 100000 = false) := hid (by rw [h1] at hv; exact hv)
    clear h1 hv
    go_enter Try.func24, Try.ntmps24
    go_wp2_with fail
    refine (s_l6Good _ _ _ l _ (H.out.below (by go_grown)) (by omega)).mono ?_
    rintro e w1 ⟨rfl, hb1⟩
    rw [HG.out]
    obtain ⟨hc_w1, hf_w1⟩ := bcell hb1
    have hz_w1_0 : w.heap.size < w1.heap.size := by have := hb1.size; simp only [World.size_alloc] at this; omega
    have HB1 := hid (bstep (by go_grown) hb1 : Below w.heap.size w w1)
    go_wp2_with fail
    refine (s_l6Base _ _).mono ?_
    rintro e _ ⟨rfl, rfl⟩
    rw [H2.out]
    go_wp2
    go_ret3
    exact ⟨rfl, HB1.out⟩

set_option maxRecDepth 100000 in
set_option maxHeartbeats 1000000 in
theorem s_StorageFor_yes (a : Option Addr) (n c : Nat) (base : Int) (l : List Int) (w : World) (h : IntsAt w a n l) (h1 : goodProf l = true) (h2 : inR base 0 100000 = true) :
    Calls Try.prog 24 #[.agg #[.slice a n c], .int .i64 base] w fun e w' => e = .returned (.tuple #[.int .i64 (lowN (60 * base * (mxTo l 24 - mnTo l 24)) 100), .int .i64 (lowD (60 * base * (mxTo l 24 - mnTo l 24)) 100), .bool true]) ∧ Below w.heap.size w w' := by
  have hg := goodProf_iff.1 h1
  have hn : n = 24 := by have := h.1; omega
  have hb := inR_iff.1 h2
  have f1 := mx_fit h1 24 (by omega)
  have f2 := mn_fit h1 24 (by omega)
  have hm := mul_in (x := 60 * base) (y := mxTo l 24 - mnTo l 24) (A := 6000000) (B := 30000) (by omega) (by omega)
  simp only [Int.reduceMul] at hm
  have H := hid h
  have HG := hid h1
  have H2 := hid h2
  have HL := hid hg.1
  have HV := hid hg.2.1
  clear h h1 h2 hg
  subst hn
  go_enter Try.func24, Try.ntmps24
  go_wp2_with fail
  refine (s_l6Good _ _ _ l _ (H.out.below (by go_grown)) (by omega)).mono ?_
  rintro e w1 ⟨rfl, hb1⟩
  rw [HG.out]
  obtain ⟨hc_w1, hf_w1⟩ := bcell hb1
  have hz_w1_0 : w.heap.size < w1.heap.size := by have := hb1.size; simp only [World.size_alloc] at this; omega
  have HB1 := hid (bstep (by go_grown) hb1 : Below w.heap.size w w1)
  go_wp2_with fail
  refine (s_l6Base _ _).mono ?_
  rintro e _ ⟨rfl, rfl⟩
  rw [H2.out]
  go_wp2
  go_loopg [7, 8, 9, 10] 24 (fun g s7 s8 s9 i wr => ∃ k : Nat, k ≤ 24 ∧ g = 24 - k ∧ i = .int .i64 k ∧ s7 = .int .i64 (mnTo l k) ∧ s8 = .int .i64 (mxTo l k) ∧ s9 = .int .i64 (pre l k) ∧ w1 = wr)
  case atStart => exact ⟨0, Nat.zero_le _, rfl, rfl, rfl, rfl, by simp [pre], rfl⟩
  case round =>
    obtain ⟨k, hk, rfl, rfl, rfl, rfl, rfl, rfl⟩ := hrel
    by_cases hlt : k < 24
    · obtain ⟨b, off, rfl, hbw, hcell⟩ := (H.out.below HB1.out).2 k hlt
      have f1 := pre_fit HG.out k (by omega)
      have f2 := pre_fit HG.out (k + 1) (by omega)
      have f3 := pre_succ l k (by have := HL.out; omega)
      have e1 : pre l k + 100 - l[k]?.getD 0 = pre l (k + 1) := by omega
      have E1 := hid e1
      have hv := HV.out _ (getD_mem' (k := k) (by have := HL.out; omega))
      clear e1 f3
      go_wp2_with fail
      refine (s_l1Least _ _ _).mono ?_
      rintro e _ ⟨rfl, rfl⟩
      go_wp2_with fail
      refine (s_l1Most _ _ _).mono ?_
      rintro e _ ⟨rfl, rfl⟩
      go_wp2
      go_roundg (24 - (k + 1))
      case rel => exact ⟨k + 1, by omega, rfl, by go_num, by rw [E1.out]; rfl, by rw [E1.out]; rfl, by rw [E1.out], rfl⟩
      case measure => omega
    · obtain rfl : k = 24 := by omega
      go_wp2_with fail
      refine (s_l3Reduce _ _ _ (by omega) (by omega) (by omega)).mono ?_
      rintro e _ ⟨rfl, m, rfl⟩
      go_wp2
      go_ret3
      exact ⟨rfl, below_drewN HB1.out _⟩

set_option maxRecDepth 100000 in
set_option maxHeartbeats 1000000 in
theorem i_StorageFor_yes (a : Option Addr) (n c : Nat) (base : Int) (l : List Int) (w : World) (h : IntsAt w a n l) (h1 : goodProf l = true) (h2 : inR base 0 100000 = true) :
    Calls Try.prog 25 #[.agg #[.slice a n c], .int .i64 base] w fun e w' => e = .returned (.tuple #[.int .i64 (lowN (60 * base * (mxTo l 24 - mnTo l 24)) 100), .int .i64 (lowD (60 * base * (mxTo l 24 - mnTo l 24)) 100), .bool true]) ∧ Below w.heap.size w w' := by
  have hg := goodProf_iff.1 h1
  have hn : n = 24 := by have := h.1; omega
  have hb := inR_iff.1 h2
  have f1 := mx_fit h1 24 (by omega)
  have f2 := mn_fit h1 24 (by omega)
  have hm := mul_in (x := 60 * base) (y := mxTo l 24 - mnTo l 24) (A := 6000000) (B := 30000) (by omega) (by omega)
  simp only [Int.reduceMul] at hm
  have H := hid h
  have HG := hid h1
  have H2 := hid h2
  have HL := hid hg.1
  have HV := hid hg.2.1
  clear h h1 h2 hg
  subst hn
  go_enter Try.func25, Try.ntmps25
  go_wp2_with fail
  refine (i_IsValidProfile _ _ _ l _ (H.out.below (by go_grown)) (by omega)).mono ?_
  rintro e w1 ⟨rfl, hb1⟩
  rw [HG.out]
  obtain ⟨hc_w1, hf_w1⟩ := bcell hb1
  have hz_w1_0 : w.heap.size < w1.heap.size := by have := hb1.size; simp only [World.size_alloc] at this; omega
  have HB1 := hid (bstep (by go_grown) hb1 : Below w.heap.size w w1)
  go_wp2_with fail
  refine (i_isBase _ _).mono ?_
  rintro e _ ⟨rfl, rfl⟩
  rw [H2.out]
  go_wp2
  go_loopg [7, 8, 25] 24 (fun g s7 s8 i wr => ∃ (k : Nat) (a' : Option Addr) (c' : Nat), k ≤ 24 ∧ g = 24 - k ∧ i = .int .i64 k ∧ s7 = .slice a' k c' ∧ s8 = .int .i64 (pre l k) ∧ Hid (OwnI wr w.heap.size (.slice a' k c') (sumsL l k) ∧ Below w.heap.size w wr))
  case atStart => exact ⟨0, _, _, Nat.zero_le _, rfl, rfl, rfl, by simp [pre], (OwnI.lit0 w1).mono HB1.out.size, bstep HB1.out ((Below.refl _ _).alloc (Nat.le_refl _) _)⟩
  case round =>
    obtain ⟨k, a', c', hk, rfl, rfl, rfl, rfl, hh⟩ := hrel
    by_cases hlt : k < 24
    · obtain ⟨b, off, rfl, hbw, hcell⟩ := (H.out.below hh.out.2).2 k hlt
      have f1 := pre_fit HG.out k (by omega)
      have f2 := pre_fit HG.out (k + 1) (by omega)
      have f3 := pre_succ l k (by have := HL.out; omega)
      have e1 : pre l k + (100 - l[k]?.getD 0) = pre l (k + 1) := by omega
      have E1 := hid e1
      have hv := HV.out _ (getD_mem' (k := k) (by have := HL.out; omega))
      clear e1 f3
      go_wp2_with (at_builtin; refine wp_append_ints _ rfl _ _ rfl w.heap.size _ (sumsL l k) rfl (hh.out.1.alloc _) _ 1 1 [pre l k + (100 - l[k]?.getD 0)] rfl (IntsAt.single _ _) (k + 1) (by rw [sumsL_len]) (by omega) (by have := hh.out.2.size; simp; omega) ?_)
      intro a'' c'' w2 hown hgrow hblk
      have HO := hid (show OwnI w2 w.heap.size (.slice a'' (k + 1) c'') (sumsL l (k + 1)) by rw [sumsL_succ, ← E1.out]; exact hown)
      have HB := hid ((bstep hh.out.2 (by go_grown)).grown hgrow (by have := hh.out.2.size; simp; omega) (fun q hq => (hh.out.1.lt q hq).1))
      clear hown hgrow hblk hh
      go_wp2
      go_roundg (24 - (k + 1))
      case rel => exact ⟨k + 1, _, _, by omega, rfl, by go_num, rfl, by rw [E1.out], HO.out, HB.out⟩
      case measure => omega
    · obtain rfl : k = 24 := by omega
      go_wp2_with fail
      refine (f_Max _ _ _ (sumsL l 24) _ hh.out.1.at (by omega) (by omega)).mono ?_
      rintro e _ ⟨⟨r, rfl, r1, r2⟩, rfl⟩
      obtain rfl := mx_is HG.out r1 r2
      clear r1 r2
      go_wp2_with fail
      refine (f_Min _ _ _ (sumsL l 24) _ hh.out.1.at (by omega) (by omega)).mono ?_
      rintro e _ ⟨⟨r, rfl, r1, r2⟩, rfl⟩
      obtain rfl := mn_is HG.out r1 r2
      clear r1 r2
      go_wp2_with fail
      refine (i_lowestTerms _ _ _ (by omega) (by omega) (by omega)).mono ?_
      rintro e _ ⟨rfl, m, rfl⟩
      go_wp2
      go_ret3
      exact ⟨rfl, below_drewN hh.out.2 _⟩

end Go.Proofs.Ytpmffboojkfpdaa
