/-
  Profiles: the use at an hour, the volume of some hours.
-/
import Derived.Test.YtpmffboojkfpdaaProfA
set_option linter.unusedVariables false
set_option linter.unusedSimpArgs false
namespace Go.Proofs.Ytpmffboojkfpdaa
open Go.RowKit

theorem i_UseAt_no (a : Option Addr) (n c : Nat) (base hour : Int) (l : List Int) (w : World) (h : IntsAt w a n l) (hn : n ≤ 1048576) (hv : (goodProf l && inR base 0 100000 && inR hour 0 23) = false) :
    Calls Try.prog 21 #[.agg #[.slice a n c], .int .i64 base, .int .i64 hour] w fun e w' => e = .returned (.tuple #[.int .i64 0, .int .i64 0, .bool false]) ∧ Below w.heap.size w w' := by
  have H := hid h
  clear h
  cases h1 : goodProf l
  · have HG := hid h1
    clear h1 hv
    go_enter Try.func21, Try.ntmps21
    go_wp2_with fail
    refine (i_IsValidProfile _ _ _ l _ (H.out.below (by go_grown)) (by omega)).mono ?_
    rintro e w1 ⟨rfl, hb1⟩
    rw [HG.out]
    obtain ⟨hc_w1, hf_w1⟩ := bcell hb1
    have hz_w1_0 : w.heap.size < w1.heap.size := by have := hb1.size; simp only [World.size_alloc] at this; omega
    have HB1 := hid (bstep (by go_grown) hb1 : Below w.heap.size w w1)
    go_wp2
    go_ret3
    exact ⟨rfl, HB1.out⟩
  · have HG := hid h1
    cases h2 : inR base 0 100000
    · have H2 := hid h2
      clear h1 h2 hv
      go_enter Try.func21, Try.ntmps21
      go_wp2_with fail
      refine (i_IsValidProfile _ _ _ l _ (H.out.below (by go_grown)) (by omega)).mono ?_
      rintro e w1 ⟨rfl, hb1⟩
      rw [HG.out]
      obtain ⟨hc_w1, hf_w1⟩ := bcell hb1
      have hz_w1_0 : w.heap.size < w1.heap.size := by have := hb1.size; simp only [World.size_alloc] at this; omega
      have HB1 := hid (bstep (by go_grown) hb1 : Below w.heap.size w w1)
      go_wp2_with fail
      refine (i_isBase _ _).mono ?_
      rintro e _ ⟨rfl, rfl⟩
      rw [H2.out]
      go_wp2
      go_ret3
      exact ⟨rfl, HB1.out⟩
    · have H2 := hid h2
      have H3 : Hid (inR hour 0 23 = false) := hid (by rw [h1, h2] at hv; exact hv)
      clear h1 h2 hv
      go_enter Try.func21, Try.ntmps21
      go_wp2_with fail
      refine (i_IsValidProfile _ _ _ l _ (H.out.below (by go_grown)) (by omega)).mono ?_
      rintro e w1 ⟨rfl, hb1⟩
      rw [HG.out]
      obtain ⟨hc_w1, hf_w1⟩ := bcell hb1
      have hz_w1_0 : w.heap.size < w1.heap.size := by have := hb1.size; simp only [World.size_alloc] at this; omega
      have HB1 := hid (bstep (by go_grown) hb1 : Below w.heap.size w w1)
      go_wp2_with fail
      refine (i_isBase _ _).mono ?_
      rintro e _ ⟨rfl, rfl⟩
      rw [H2.out]
      go_wp2_with fail
      refine (i_isHour _ _).mono ?_
      rintro e _ ⟨rfl, rfl⟩
      rw [H3.out]
      go_wp2
      go_ret3
      exact ⟨rfl, HB1.out⟩
theorem s_UseAt_no (a : Option Addr) (n c : Nat) (base hour : Int) (l : List Int) (w : World) (h : IntsAt w a n l) (hn : n ≤ 1048576) (hv : (goodProf l && inR base 0 100000 && inR hour 0 23) = false) :
    Calls Try.prog 20 #[.agg #[.slice a n c], .int .i64 base, .int .i64 hour] w fun e w' => e = .returned (.tuple #[.int .i64 0, .int .i64 0, .bool false]) ∧ Below w.heap.size w w' := by
  have H := hid h
  clear h
  cases h1 : goodProf l
  · have HG := hid h1
    clear h1 hv
    go_enter Try.func20, Try.ntmps20
    go_wp2_with fail
    refine (s_l6Good _ _ _ l _ (H.out.below (by go_grown)) (by omega)).mono ?_
    rintro e w1 ⟨rfl, hb1⟩
    rw [HG.out]
    obtain ⟨hc_w1, hf_w1⟩ := bcell hb1
    have hz_w1_0 : w.heap.size < w1.heap.size := by have := hb1.size; simp only [World.size_alloc] at this; omega
    have HB1 := hid (bstep (by go_grown) hb1 : Below w.heap.size w w1)
    go_wp2
    go_ret3
    exact ⟨rfl, HB1.out⟩
  · have HG := hid h1
    cases h2 : inR base 0 100000
    · have H2 := hid h2
      clear h1 h2 hv
      go_enter Try.func20, Try.ntmps20
      go_wp2_with fail
      refine (s_l6Good _ _ _ l _ (H.out.below (by go_grown)) (by omega)).mono ?_
      rintro e w1 ⟨rfl, hb1⟩
      rw [HG.out]
      obtain ⟨hc_w1, hf_w1⟩ := bcell hb1
      have hz_w1_0 : w.heap.size < w1.heap.size := by have := hb1.size; simp only [World.size_alloc] at this; omega
      have HB1 := hid (bstep (by go_grown) hb1 : Below w.heap.size w w1)
      go_wp2_with fail
      refine (s_l6Base _ _).mono ?_
      rintro e _ ⟨rfl, rfl⟩
      rw [H2.out]
      go_wp2
      go_ret3
      exact ⟨rfl, HB1.out⟩
    · have H2 := hid h2
      have H3 : Hid (inR hour 0 23 = false) := hid (by rw [h1, h2] at hv; exact hv)
      clear h1 h2 hv
      go_enter Try.func20, Try.ntmps20
      go_wp2_with fail
      refine (s_l6Good _ _ _ l _ (H.out.below (by go_grown)) (by omega)).mono ?_
      rintro e w1 ⟨rfl, hb1⟩
      rw [HG.out]
      obtain ⟨hc_w1, hf_w1⟩ := bcell hb1
      have hz_w1_0 : w.heap.size < w1.heap.size := by have := hb1.size; simp only [World.size_alloc] at this; omega
      have HB1 := hid (bstep (by go_grown) hb1 : Below w.heap.size w w1)
      go_wp2_with fail
      refine (s_l6Base _ _).mono ?_
      rintro e _ ⟨rfl, rfl⟩
      rw [H2.out]
      go_wp2_with fail
      refine (s_l6Hour _ _).mono ?_
      rintro e _ ⟨rfl, rfl⟩
      rw [H3.out]
      go_wp2
      go_ret3
      exact ⟨rfl, HB1.out⟩
set_option maxRecDepth 100000 in
theorem i_UseAt_yes (a : Option Addr) (n c : Nat) (base hour : Int) (l : List Int) (w : World) (h : IntsAt w a n l) (h1 : goodProf l = true) (h2 : inR base 0 100000 = true) (h3 : inR hour 0 23 = true) :
    Calls Try.prog 21 #[.agg #[.slice a n c], .int .i64 base, .int .i64 hour] w fun e w' => e = .returned (.tuple #[.int .i64 (lowN (base * l[hour.toNat]?.getD 0) 100), .int .i64 (lowD (base * l[hour.toNat]?.getD 0) 100), .bool true]) ∧ Below w.heap.size w w' := by
  have hg := goodProf_iff.1 h1
  have hn : n = 24 := by have := h.1; omega
  have hb := inR_iff.1 h2
  have hh := inR_iff.1 h3
  have hv := hg.2.1 _ (getD_mem' (k := hour.toNat) (by omega))
  have hm := mul_in (x := base) (y := l[hour.toNat]?.getD 0) (A := 100000) (B := 1000) (by omega) (by omega)
  simp only [Int.reduceMul] at hm
  have H := hid h
  have HG := hid h1
  have H2 := hid h2
  have H3 := hid h3
  clear h h1 h2 h3 hg
  subst hn
  go_enter Try.func21, Try.ntmps21
  go_wp2_with fail
  refine (i_IsValidProfile _ _ _ l _ (H.out.below (by go_grown)) (by omega)).mono ?_
  rintro e w1 ⟨rfl, hb1⟩
  rw [HG.out]
  obtain ⟨hc_w1, hf_w1⟩ := bcell hb1
  have hz_w1_0 : w.heap.size < w1.heap.size := by have := hb1.size; simp only [World.size_alloc] at this; omega
  have HB1 := hid (bstep (by go_grown) hb1 : Below w.heap.size w w1)
  go_wp2_with fail
  refine (i_isBase _ _).mono ?_
  rintro e _ ⟨rfl, rfl⟩
  rw [H2.out]
  go_wp2_with fail
  refine (i_isHour _ _).mono ?_
  rintro e _ ⟨rfl, rfl⟩
  rw [H3.out]
  obtain ⟨b, off, rfl, hbw, hcell⟩ := (H.out.below HB1.out).2 hour.toNat (by omega)
  go_wp2_with fail
  refine (i_lowestTerms _ _ _ (by omega) (by omega) (by omega)).mono ?_
  rintro e _ ⟨rfl, m, rfl⟩
  go_wp2
  go_ret3
  exact ⟨rfl, below_drewN HB1.out _⟩
set_option maxRecDepth 100000 in
theorem s_UseAt_yes (a : Option Addr) (n c : Nat) (base hour : Int) (l : List Int) (w : World) (h : IntsAt w a n l) (h1 : goodProf l = true) (h2 : inR base 0 100000 = true) (h3 : inR hour 0 23 = true) :
    Calls Try.prog 20 #[.agg #[.slice a n c], .int .i64 base, .int .i64 hour] w fun e w' => e = .returned (.tuple #[.int .i64 (lowN (base * l[hour.toNat]?.getD 0) 100), .int .i64 (lowD (base * l[hour.toNat]?.getD 0) 100), .bool true]) ∧ Below w.heap.size w w' := by
  have hg := goodProf_iff.1 h1
  have hn : n = 24 := by have := h.1; omega
  have hb := inR_iff.1 h2
  have hh := inR_iff.1 h3
  have hv := hg.2.1 _ (getD_mem' (k := hour.toNat) (by omega))
  have hm := mul_in (x := base) (y := l[hour.toNat]?.getD 0) (A := 100000) (B := 1000) (by omega) (by omega)
  simp only [Int.reduceMul] at hm
  have H := hid h
  have HG := hid h1
  have H2 := hid h2
  have H3 := hid h3
  clear h h1 h2 h3 hg
  subst hn
  go_enter Try.func20, Try.ntmps20
  go_wp2_with fail
  refine (s_l6Good _ _ _ l _ (H.out.below (by go_grown)) (by omega)).mono ?_
  rintro e w1 ⟨rfl, hb1⟩
  rw [HG.out]
  obtain ⟨hc_w1, hf_w1⟩ := bcell hb1
  have hz_w1_0 : w.heap.size < w1.heap.size := by have := hb1.size; simp only [World.size_alloc] at this; omega
  have HB1 := hid (bstep (by go_grown) hb1 : Below w.heap.size w w1)
  go_wp2_with fail
  refine (s_l6Base _ _).mono ?_
  rintro e _ ⟨rfl, rfl⟩
  rw [H2.out]
  go_wp2_with fail
  refine (s_l6Hour _ _).mono ?_
  rintro e _ ⟨rfl, rfl⟩
  rw [H3.out]
  obtain ⟨b, off, rfl, hbw, hcell⟩ := (H.out.below HB1.out).2 hour.toNat (by omega)
  go_wp2_with fail
  refine (s_l3Reduce _ _ _ (by omega) (by omega) (by omega)).mono ?_
  rintro e _ ⟨rfl, m, rfl⟩
  go_wp2
  go_ret3
  exact ⟨rfl, below_drewN HB1.out _⟩
theorem i_VolumeBetween_no (a : Option Addr) (n c : Nat) (base hour hours : Int) (l : List Int) (w : World) (h : IntsAt w a n l) (hn : n ≤ 1048576) (hv : (goodProf l && inR base 0 100000 && inR hour 0 23 && inR hours 0 24) = false) :
    Calls Try.prog 23 #[.agg #[.slice a n c], .int .i64 base, .int .i64 hour, .int .i64 hours] w fun e w' => e = .returned (.tuple #[.int .i64 0, .int .i64 0, .bool false]) ∧ Below w.heap.size w w' := by
  have H := hid h
  clear h
  cases h1 : goodProf l
  · have HG := hid h1
    clear h1 hv
    go_enter Try.func23, Try.ntmps23
    go_wp2_with fail
    refine (i_IsValidProfile _ _ _ l _ (H.out.below (by go_grown)) (by omega)).mono ?_
    rintro e w1 ⟨rfl, hb1⟩
    rw [HG.out]
    obtain ⟨hc_w1, hf_w1⟩ := bcell hb1
    have hz_w1_0 : w.heap.size < w1.heap.size := by have := hb1.size; simp only [World.size_alloc] at this; omega
    have HB1 := hid (bstep (by go_grown) hb1 : Below w.heap.size w w1)
    go_wp2
    go_ret3
    exact ⟨rfl, HB1.out⟩
  · have HG := hid h1
    cases h2 : inR base 0 100000
    · have H2 := hid h2
      clear h1 h2 hv
      go_enter Try.func23, Try.ntmps23
      go_wp2_with fail
      refine (i_IsValidProfile _ _ _ l _ (H.out.below (by go_grown)) (by omega)).mono ?_
      rintro e w1 ⟨rfl, hb1⟩
      rw [HG.out]
      obtain ⟨hc_w1, hf_w1⟩ := bcell hb1
      have hz_w1_0 : w.heap.size < w1.heap.size := by have := hb1.size; simp only [World.size_alloc] at this; omega
      have HB1 := hid (bstep (by go_grown) hb1 : Below w.heap.size w w1)
      go_wp2_with fail
      refine (i_isBase _ _).mono ?_
      rintro e _ ⟨rfl, rfl⟩
      rw [H2.out]
      go_wp2
      go_ret3
      exact ⟨rfl, HB1.out⟩
    · have H2 := hid h2
      cases h3 : inR hour 0 23
      · have H3 := hid h3
        clear h1 h2 h3 hv
        go_enter Try.func23, Try.ntmps23
        go_wp2_with fail
        refine (i_IsValidProfile _ _ _ l _ (H.out.below (by go_grown)) (by omega)).mono ?_
        rintro e w1 ⟨rfl, hb1⟩
        rw [HG.out]
        obtain ⟨hc_w1, hf_w1⟩ := bcell hb1
        have hz_w1_0 : w.heap.size < w1.heap.size := by have := hb1.size; simp only [World.size_alloc] at this; omega
        have HB1 := hid (bstep (by go_grown) hb1 : Below w.heap.size w w1)
        go_wp2_with fail
        refine (i_isBase _ _).mono ?_
        rintro e _ ⟨rfl, rfl⟩
        rw [H2.out]
        go_wp2_with fail
        refine (i_isHour _ _).mono ?_
        rintro e _ ⟨rfl, rfl⟩
        rw [H3.out]
        go_wp2
        go_ret3
        exact ⟨rfl, HB1.out⟩
      · have H3 := hid h3
        have H4 : Hid (inR hours 0 24 = false) := hid (by rw [h1, h2, h3] at hv; exact hv)
        clear h1 h2 h3 hv
        go_enter Try.func23, Try.ntmps23
        go_wp2_with fail
        refine (i_IsValidProfile _ _ _ l _ (H.out.below (by go_grown)) (by omega)).mono ?_
        rintro e w1 ⟨rfl, hb1⟩
        rw [HG.out]
        obtain ⟨hc_w1, hf_w1⟩ := bcell hb1
        have hz_w1_0 : w.heap.size < w1.heap.size := by have := hb1.size; simp only [World.size_alloc] at this; omega
        have HB1 := hid (bstep (by go_grown) hb1 : Below w.heap.size w w1)
        go_wp2_with fail
        refine (i_isBase _ _).mono ?_
        rintro e _ ⟨rfl, rfl⟩
        rw [H2.out]
        go_wp2_with fail
        refine (i_isHour _ _).mono ?_
        rintro e _ ⟨rfl, rfl⟩
        rw [H3.out]
        go_wp2_with fail
        refine (i_inside _ _ _ _).mono ?_
        rintro e _ ⟨rfl, rfl⟩
        rw [H4.out]
        go_wp2
        go_ret3
        exact ⟨rfl, HB1.out⟩
theorem s_VolumeBetween_no (a : Option Addr) (n c : Nat) (base hour hours : Int) (l : List Int) (w : World) (h : IntsAt w a n l) (hn : n ≤ 1048576) (hv : (goodProf l && inR base 0 100000 && inR hour 0 23 && inR hours 0 24) = false) :
    Calls Try.prog 22 #[.agg #[.slice a n c], .int .i64 base, .int .i64 hour, .int .i64 hours] w fun e w' => e = .returned (.tuple #[.int .i64 0, .int .i64 0, .bool false]) ∧ Below w.heap.size w w' := by
  have H := hid h
  clear h
  cases h1 : goodProf l
  · have HG := hid h1
    clear h1 hv
    go_enter Try.func22, Try.ntmps22
    go_wp2_with fail
    refine (s_l6Good _ _ _ l _ (H.out.below (by go_grown)) (by omega)).mono ?_
    rintro e w1 ⟨rfl, hb1⟩
    rw [HG.out]
    obtain ⟨hc_w1, hf_w1⟩ := bcell hb1
    have hz_w1_0 : w.heap.size < w1.heap.size := by have := hb1.size; simp only [World.size_alloc] at this; omega
    have HB1 := hid (bstep (by go_grown) hb1 : Below w.heap.size w w1)
    go_wp2
    go_ret3
    exact ⟨rfl, HB1.out⟩
  · have HG := hid h1
    cases h2 : inR base 0 100000
    · have H2 := hid h2
      clear h1 h2 hv
      go_enter Try.func22, Try.ntmps22
      go_wp2_with fail
      refine (s_l6Good _ _ _ l _ (H.out.below (by go_grown)) (by omega)).mono ?_
      rintro e w1 ⟨rfl, hb1⟩
      rw [HG.out]
      obtain ⟨hc_w1, hf_w1⟩ := bcell hb1
      have hz_w1_0 : w.heap.size < w1.heap.size := by have := hb1.size; simp only [World.size_alloc] at this; omega
      have HB1 := hid (bstep (by go_grown) hb1 : Below w.heap.size w w1)
      go_wp2_with fail
      refine (s_l6Base _ _).mono ?_
      rintro e _ ⟨rfl, rfl⟩
      rw [H2.out]
      go_wp2
      go_ret3
      exact ⟨rfl, HB1.out⟩
    · have H2 := hid h2
      cases h3 : inR hour 0 23
      · have H3 := hid h3
        clear h1 h2 h3 hv
        go_enter Try.func22, Try.ntmps22
        go_wp2_with fail
        refine (s_l6Good _ _ _ l _ (H.out.below (by go_grown)) (by omega)).mono ?_
        rintro e w1 ⟨rfl, hb1⟩
        rw [HG.out]
        obtain ⟨hc_w1, hf_w1⟩ := bcell hb1
        have hz_w1_0 : w.heap.size < w1.heap.size := by have := hb1.size; simp only [World.size_alloc] at this; omega
        have HB1 := hid (bstep (by go_grown) hb1 : Below w.heap.size w w1)
        go_wp2_with fail
        refine (s_l6Base _ _).mono ?_
        rintro e _ ⟨rfl, rfl⟩
        rw [H2.out]
        go_wp2_with fail
        refine (s_l6Hour _ _).mono ?_
        rintro e _ ⟨rfl, rfl⟩
        rw [H3.out]
        go_wp2
        go_ret3
        exact ⟨rfl, HB1.out⟩
      · have H3 := hid h3
        have H4 : Hid (inR hours 0 24 = false) := hid (by rw [h1, h2, h3] at hv; exact hv)
        clear h1 h2 h3 hv
        go_enter Try.func22, Try.ntmps22
        go_wp2_with fail
        refine (s_l6Good _ _ _ l _ (H.out.below (by go_grown)) (by omega)).mono ?_
        rintro e w1 ⟨rfl, hb1⟩
        rw [HG.out]
        obtain ⟨hc_w1, hf_w1⟩ := bcell hb1
        have hz_w1_0 : w.heap.size < w1.heap.size := by have := hb1.size; simp only [World.size_alloc] at this; omega
        have HB1 := hid (bstep (by go_grown) hb1 : Below w.heap.size w w1)
        go_wp2_with fail
        refine (s_l6Base _ _).mono ?_
        rintro e _ ⟨rfl, rfl⟩
        rw [H2.out]
        go_wp2_with fail
        refine (s_l6Hour _ _).mono ?_
        rintro e _ ⟨rfl, rfl⟩
        rw [H3.out]
        go_wp2_with fail
        refine (s_l1In _ _ _ _).mono ?_
        rintro e _ ⟨rfl, rfl⟩
        rw [H4.out]
        go_wp2
        go_ret3
        exact ⟨rfl, HB1.out⟩
set_option maxRecDepth 100000 in
theorem i_VolumeBetween_yes (a : Option Addr) (n c f k : Nat) (base : Int) (l : List Int) (w : World) (h : IntsAt w a n l) (h1 : goodProf l = true) (h2 : inR base 0 100000 = true) (h3 : inR (f : Int) 0 23 = true) (h4 : inR (k : Int) 0 24 = true) :
    Calls Try.prog 23 #[.agg #[.slice a n c], .int .i64 base, .int .i64 f, .int .i64 k] w fun e w' => e = .returned (.tuple #[.int .i64 (lowN (60 * base * hrs l f k) 100), .int .i64 (lowD (60 * base * hrs l f k) 100), .bool true]) ∧ Below w.heap.size w w' := by
  have hn : n = 24 := by have := h.1; have := (goodProf_iff.1 h1).1; omega
  have hb := inR_iff.1 h2
  have hh := inR_iff.1 h3
  have hk := inR_iff.1 h4
  have hv := hrs_fit h1 f k
  have hm := mul_in (x := 60 * base) (y := hrs l f k) (A := 6000000) (B := 24000) (by omega) (by omega)
  simp only [Int.reduceMul] at hm
  have H := hid h
  have HG := hid h1
  have H2 := hid h2
  have H3 := hid h3
  have H4 := hid h4
  clear h h1 h2 h3 h4
  subst hn
  go_enter Try.func23, Try.ntmps23
  go_wp2_with fail
  refine (i_IsValidProfile _ _ _ l _ (H.out.below (by go_grown)) (by omega)).mono ?_
  rintro e w1 ⟨rfl, hb1⟩
  rw [HG.out]
  obtain ⟨hc_w1, hf_w1⟩ := bcell hb1
  have hz_w1_0 : w.heap.size < w1.heap.size := by have := hb1.size; simp only [World.size_alloc] at this; omega
  have HB1 := hid (bstep (by go_grown) hb1 : Below w.heap.size w w1)
  go_wp2_with fail
  refine (i_isBase _ _).mono ?_
  rintro e _ ⟨rfl, rfl⟩
  rw [H2.out]
  go_wp2_with fail
  refine (i_isHour _ _).mono ?_
  rintro e _ ⟨rfl, rfl⟩
  rw [H3.out]
  go_wp2_with fail
  refine (i_inside _ _ _ _).mono ?_
  rintro e _ ⟨rfl, rfl⟩
  rw [H4.out]
  go_wp2_with fail
  refine (i_sumFrom _ _ _ f k l _ (H.out.below HB1.out) HG.out (by omega) (by omega)).mono ?_
  rintro e w2 ⟨rfl, hb2⟩
  go_wp2_with fail
  refine (i_lowestTerms _ _ _ (by omega) (by omega) (by omega)).mono ?_
  rintro e _ ⟨rfl, m, rfl⟩
  go_wp2
  go_ret3
  exact ⟨rfl, below_drewN (bstep HB1.out hb2) _⟩
set_option maxRecDepth 100000 in
theorem s_VolumeBetween_yes (a : Option Addr) (n c f k : Nat) (base : Int) (l : List Int) (w : World) (h : IntsAt w a n l) (h1 : goodProf l = true) (h2 : inR base 0 100000 = true) (h3 : inR (f : Int) 0 23 = true) (h4 : inR (k : Int) 0 24 = true) :
    Calls Try.prog 22 #[.agg #[.slice a n c], .int .i64 base, .int .i64 f, .int .i64 k] w fun e w' => e = .returned (.tuple #[.int .i64 (lowN (60 * base * hrs l f k) 100), .int .i64 (lowD (60 * base * hrs l f k) 100), .bool true]) ∧ Below w.heap.size w w' := by
  have hn : n = 24 := by have := h.1; have := (goodProf_iff.1 h1).1; omega
  have hb := inR_iff.1 h2
  have hh := inR_iff.1 h3
  have hk := inR_iff.1 h4
  have hv := hrs_fit h1 f k
  have hm := mul_in (x := 60 * base) (y := hrs l f k) (A := 6000000) (B := 24000) (by omega) (by omega)
  simp only [Int.reduceMul] at hm
  have H := hid h
  have HG := hid h1
  have H2 := hid h2
  have H3 := hid h3
  have H4 := hid h4
  clear h h1 h2 h3 h4
  subst hn
  go_enter Try.func22, Try.ntmps22
  go_wp2_with fail
  refine (s_l6Good _ _ _ l _ (H.out.below (by go_grown)) (by omega)).mono ?_
  rintro e w1 ⟨rfl, hb1⟩
  rw [HG.out]
  obtain ⟨hc_w1, hf_w1⟩ := bcell hb1
  have hz_w1_0 : w.heap.size < w1.heap.size := by have := hb1.size; simp only [World.size_alloc] at this; omega
  have HB1 := hid (bstep (by go_grown) hb1 : Below w.heap.size w w1)
  go_wp2_with fail
  refine (s_l6Base _ _).mono ?_
  rintro e _ ⟨rfl, rfl⟩
  rw [H2.out]
  go_wp2_with fail
  refine (s_l6Hour _ _).mono ?_
  rintro e _ ⟨rfl, rfl⟩
  rw [H3.out]
  go_wp2_with fail
  refine (s_l1In _ _ _ _).mono ?_
  rintro e _ ⟨rfl, rfl⟩
  rw [H4.out]
  go_wp2_with fail
  refine (s_l6Sum _ _ _ f k l _ (H.out.below HB1.out) HG.out (by omega) (by omega)).mono ?_
  rintro e w2 ⟨rfl, hb2⟩
  go_wp2_with fail
  refine (s_l3Reduce _ _ _ (by omega) (by omega) (by omega)).mono ?_
  rintro e _ ⟨rfl, m, rfl⟩
  go_wp2
  go_ret3
  exact ⟨rfl, below_drewN (bstep HB1.out hb2) _⟩

end Go.Proofs.Ytpmffboojkfpdaa
