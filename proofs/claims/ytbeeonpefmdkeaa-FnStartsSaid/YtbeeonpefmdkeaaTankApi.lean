/-
  What the exported functions on tanks return, in the program and in the reference.
-/
import Derived.Test.YtbeeonpefmdkeaaTankRunS
set_option linter.unusedVariables false
set_option linter.unusedSimpArgs false
namespace Go.Proofs.Ytbeeonpefmdkeaa
open Go.RowKit

theorem spills_bound {a b lv : Int} {ins outs : List Int} (hd : goodDay lv a b ins outs = true) : ∀ x ∈ spillsOf a b lv ins outs ins.length, 0 ≤ x ∧ x ≤ 1000 := by
  obtain ⟨h1, h2, h3, h4, h5⟩ := goodDay_iff.1 hd
  intro x hx
  simp only [spillsOf, List.mem_map, List.mem_range] at hx
  obtain ⟨k, hk, rfl⟩ := hx
  have hg := goodTank_iff.1 (lvAt_good h1 h4 h5 h3 k (by omega))
  have hi := h4 _ (getD_mem ins k hk)
  unfold stSpill; omega

theorem miss_bound {a b lv : Int} {ins outs : List Int} (hd : goodDay lv a b ins outs = true) : ∀ x ∈ missOf a b lv ins outs ins.length, 0 ≤ x ∧ x ≤ 1000 := by
  obtain ⟨h1, h2, h3, h4, h5⟩ := goodDay_iff.1 hd
  intro x hx
  simp only [missOf, List.mem_map, List.mem_range] at hx
  obtain ⟨k, hk, rfl⟩ := hx
  have hg := goodTank_iff.1 (lvAt_good h1 h4 h5 h3 k (by omega))
  have hi := h4 _ (getD_mem ins k hk)
  have ho := h5 _ (getD_mem outs k (by omega))
  unfold stMiss stSpill; omega

theorem wide {l : List Int} (h : ∀ x ∈ l, 0 ≤ x ∧ x ≤ 1000) : ∀ x ∈ l, -1000000000000 ≤ x ∧ x ≤ 1000000000000 := fun x hx => by have := h x hx; omega

theorem sum_le {l : List Int} (h : ∀ x ∈ l, 0 ≤ x ∧ x ≤ 1000) : 0 ≤ l.sum ∧ l.sum ≤ 1000 * (l.length : Int) := by
  induction l with
  | nil => simp
  | cons x r ih =>
    have h1 := h x (by simp)
    have h2 := ih (fun y hy => h y (by simp [hy]))
    simp only [List.sum_cons, List.length_cons]
    omega

/-- the two runs under one name -/
theorem i_runDay (lv a b : Int) (p q : Option Addr) (n c d : Nat) (ins outs : List Int) (w : World) (h : IntsAt w p n ins) (h' : IntsAt w q n outs) (hd : goodDay lv a b ins outs = true) :
    Calls Try.prog 59 #[.agg #[.int .i64 lv, .int .i64 a, .int .i64 b], .slice p n c, .slice q n d] w fun e w' =>
      ∃ a1 c1 a2 c2 a3 c3, e = .returned (.agg #[.slice a1 n c1, .slice a2 n c2, .slice a3 n c3]) ∧ Below w.heap.size w w' ∧
        OwnI w' w.heap.size (.slice a1 n c1) (levelsOf a b lv ins outs n) ∧ OwnI w' w.heap.size (.slice a2 n c2) (spillsOf a b lv ins outs n) ∧ OwnI w' w.heap.size (.slice a3 n c3) (missOf a b lv ins outs n) := by
  obtain ⟨h1, h2, h3, h4, h5⟩ := goodDay_iff.1 hd
  have hl := h.1
  exact i_runTank lv a b p q n c d ins outs w h h' (by omega) h1 h4 h5

theorem s_runDay (l0 lv a b : Int) (p q : Option Addr) (n c d : Nat) (ins outs : List Int) (w : World) (h : IntsAt w p n ins) (h' : IntsAt w q n outs) (hd : goodDay lv a b ins outs = true) :
    Calls Try.prog 56 #[.agg #[.int .i64 l0, .int .i64 a, .int .i64 b], .int .i64 lv, .slice p n c, .slice q n d] w fun e w' =>
      ∃ a1 c1 a2 c2 a3 c3, e = .returned (.tuple #[.slice a1 n c1, .slice a2 n c2, .slice a3 n c3]) ∧ Below w.heap.size w w' ∧
        OwnI w' w.heap.size (.slice a1 n c1) (levelsOf a b lv ins outs n) ∧ OwnI w' w.heap.size (.slice a2 n c2) (spillsOf a b lv ins outs n) ∧ OwnI w' w.heap.size (.slice a3 n c3) (missOf a b lv ins outs n) := by
  obtain ⟨h1, h2, h3, h4, h5⟩ := goodDay_iff.1 hd
  have hl := h.1
  exact s_l11Run l0 lv a b p q n c d ins outs w h h' (by omega) h1 h4 h5

theorem i_RunTank_no (lv a b : Int) (p q : Option Addr) (n m c d : Nat) (ins outs : List Int) (w : World) (h : IntsAt w p n ins) (h' : IntsAt w q m outs) (hn : n ≤ 1048576) (hm : m ≤ 1048576) (hd : goodDay lv a b ins outs = false) :
    Calls Try.prog 36 #[.agg #[.int .i64 lv, .int .i64 a, .int .i64 b], .slice p n c, .slice q m d] w fun e w' => e = .returned (.tuple #[.slice none 0 0, .int .i64 0, .int .i64 0, .bool false]) ∧ Below w.heap.size w w' := by
  have H := hid h
  have H' := hid h'
  clear h h'
  go_enter Try.func36, Try.ntmps36
  go_wp2_with fail
  refine (i_isTankDay _ _ _ _ _ _ _ _ _ _ _ _ (H.out.below (by go_grown)) (H'.out.below (by go_grown)) hn hm).mono ?_
  rintro e w1 ⟨rfl, hb1⟩
  obtain ⟨hc_w1, hf_w1⟩ := bcell hb1
  go_wp2
  refine bodyPost_ret (v := .tuple #[.slice none 0 0, .int .i64 0, .int .i64 0, .bool false]) (by simp [results, Try.results36, go_sem]) rfl ⟨rfl, ?_⟩
  repeat' (first | (with_reducible exact Below.refl _ _) | (with_reducible assumption) | (with_reducible refine bstep ?_ (by with_reducible assumption)) | (with_reducible refine Below.alloc ?_ ?_ _) | (with_reducible refine Below.setCell ?_ ?_ _) | (with_reducible refine Below.drew ?_) | (with_reducible refine below_drewN ?_ _) | omega | (simp only [World.size_alloc, World.size_setCell, World.size_drew]; omega) | (simp; omega))
theorem i_IsCalm_no (lv a b : Int) (p q : Option Addr) (n m c d : Nat) (ins outs : List Int) (w : World) (h : IntsAt w p n ins) (h' : IntsAt w q m outs) (hn : n ≤ 1048576) (hm : m ≤ 1048576) (hd : goodDay lv a b ins outs = false) :
    Calls Try.prog 28 #[.agg #[.int .i64 lv, .int .i64 a, .int .i64 b], .slice p n c, .slice q m d] w fun e w' => e = .returned (.tuple #[.bool false, .bool false]) ∧ Below w.heap.size w w' := by
  have H := hid h
  have H' := hid h'
  clear h h'
  go_enter Try.func28, Try.ntmps28
  go_wp2_with fail
  refine (i_isTankDay _ _ _ _ _ _ _ _ _ _ _ _ (H.out.below (by go_grown)) (H'.out.below (by go_grown)) hn hm).mono ?_
  rintro e w1 ⟨rfl, hb1⟩
  obtain ⟨hc_w1, hf_w1⟩ := bcell hb1
  go_wp2
  refine bodyPost_ret (v := .tuple #[.bool false, .bool false]) (by simp [results, Try.results28, go_sem]) rfl ⟨rfl, ?_⟩
  repeat' (first | (with_reducible exact Below.refl _ _) | (with_reducible assumption) | (with_reducible refine bstep ?_ (by with_reducible assumption)) | (with_reducible refine Below.alloc ?_ ?_ _) | (with_reducible refine Below.setCell ?_ ?_ _) | (with_reducible refine Below.drew ?_) | (with_reducible refine below_drewN ?_ _) | omega | (simp only [World.size_alloc, World.size_setCell, World.size_drew]; omega) | (simp; omega))
theorem s_IsCalm_no (lv a b : Int) (p q : Option Addr) (n m c d : Nat) (ins outs : List Int) (w : World) (h : IntsAt w p n ins) (h' : IntsAt w q m outs) (hn : n ≤ 1048576) (hm : m ≤ 1048576) (hd : goodDay lv a b ins outs = false) :
    Calls Try.prog 27 #[.agg #[.int .i64 lv, .int .i64 a, .int .i64 b], .slice p n c, .slice q m d] w fun e w' => e = .returned (.tuple #[.bool false, .bool false]) ∧ Below w.heap.size w w' := by
  have H := hid h
  have H' := hid h'
  clear h h'
  go_enter Try.func27, Try.ntmps27
  go_wp2_with fail
  refine (s_l11Day _ _ _ _ _ _ _ _ _ _ _ _ (H.out.below (by go_grown)) (H'.out.below (by go_grown)) hn hm).mono ?_
  rintro e w1 ⟨rfl, hb1⟩
  obtain ⟨hc_w1, hf_w1⟩ := bcell hb1
  go_wp2
  refine bodyPost_ret (v := .tuple #[.bool false, .bool false]) (by simp [results, Try.results27, go_sem]) rfl ⟨rfl, ?_⟩
  repeat' (first | (with_reducible exact Below.refl _ _) | (with_reducible assumption) | (with_reducible refine bstep ?_ (by with_reducible assumption)) | (with_reducible refine Below.alloc ?_ ?_ _) | (with_reducible refine Below.setCell ?_ ?_ _) | (with_reducible refine Below.drew ?_) | (with_reducible refine below_drewN ?_ _) | omega | (simp only [World.size_alloc, World.size_setCell, World.size_drew]; omega) | (simp; omega))
theorem i_WaterTaken_no (lv a b : Int) (p q : Option Addr) (n m c d : Nat) (ins outs : List Int) (w : World) (h : IntsAt w p n ins) (h' : IntsAt w q m outs) (hn : n ≤ 1048576) (hm : m ≤ 1048576) (hd : goodDay lv a b ins outs = false) :
    Calls Try.prog 26 #[.agg #[.int .i64 lv, .int .i64 a, .int .i64 b], .slice p n c, .slice q m d] w fun e w' => e = .returned (.tuple #[.int .i64 0, .bool false]) ∧ Below w.heap.size w w' := by
  have H := hid h
  have H' := hid h'
  clear h h'
  go_enter Try.func26, Try.ntmps26
  go_wp2_with fail
  refine (i_isTankDay _ _ _ _ _ _ _ _ _ _ _ _ (H.out.below (by go_grown)) (H'.out.below (by go_grown)) hn hm).mono ?_
  rintro e w1 ⟨rfl, hb1⟩
  obtain ⟨hc_w1, hf_w1⟩ := bcell hb1
  go_wp2
  refine bodyPost_ret (v := .tuple #[.int .i64 0, .bool false]) (by simp [results, Try.results26, go_sem]) rfl ⟨rfl, ?_⟩
  repeat' (first | (with_reducible exact Below.refl _ _) | (with_reducible assumption) | (with_reducible refine bstep ?_ (by with_reducible assumption)) | (with_reducible refine Below.alloc ?_ ?_ _) | (with_reducible refine Below.setCell ?_ ?_ _) | (with_reducible refine Below.drew ?_) | (with_reducible refine below_drewN ?_ _) | omega | (simp only [World.size_alloc, World.size_setCell, World.size_drew]; omega) | (simp; omega))
theorem s_WaterTaken_no (lv a b : Int) (p q : Option Addr) (n m c d : Nat) (ins outs : List Int) (w : World) (h : IntsAt w p n ins) (h' : IntsAt w q m outs) (hn : n ≤ 1048576) (hm : m ≤ 1048576) (hd : goodDay lv a b ins outs = false) :
    Calls Try.prog 25 #[.agg #[.int .i64 lv, .int .i64 a, .int .i64 b], .slice p n c, .slice q m d] w fun e w' => e = .returned (.tuple #[.int .i64 0, .bool false]) ∧ Below w.heap.size w w' := by
  have H := hid h
  have H' := hid h'
  clear h h'
  go_enter Try.func25, Try.ntmps25
  go_wp2_with fail
  refine (s_l11Day _ _ _ _ _ _ _ _ _ _ _ _ (H.out.below (by go_grown)) (H'.out.below (by go_grown)) hn hm).mono ?_
  rintro e w1 ⟨rfl, hb1⟩
  obtain ⟨hc_w1, hf_w1⟩ := bcell hb1
  go_wp2
  refine bodyPost_ret (v := .tuple #[.int .i64 0, .bool false]) (by simp [results, Try.results25, go_sem]) rfl ⟨rfl, ?_⟩
  repeat' (first | (with_reducible exact Below.refl _ _) | (with_reducible assumption) | (with_reducible refine bstep ?_ (by with_reducible assumption)) | (with_reducible refine Below.alloc ?_ ?_ _) | (with_reducible refine Below.setCell ?_ ?_ _) | (with_reducible refine Below.drew ?_) | (with_reducible refine below_drewN ?_ _) | omega | (simp only [World.size_alloc, World.size_setCell, World.size_drew]; omega) | (simp; omega))
theorem i_FirstMissing_no (lv a b : Int) (p q : Option Addr) (n m c d : Nat) (ins outs : List Int) (w : World) (h : IntsAt w p n ins) (h' : IntsAt w q m outs) (hn : n ≤ 1048576) (hm : m ≤ 1048576) (hd : goodDay lv a b ins outs = false) :
    Calls Try.prog 23 #[.agg #[.int .i64 lv, .int .i64 a, .int .i64 b], .slice p n c, .slice q m d] w fun e w' => e = .returned (.tuple #[.int .i64 0, .bool false]) ∧ Below w.heap.size w w' := by
  have H := hid h
  have H' := hid h'
  clear h h'
  go_enter Try.func23, Try.ntmps23
  go_wp2_with fail
  refine (i_isTankDay _ _ _ _ _ _ _ _ _ _ _ _ (H.out.below (by go_grown)) (H'.out.below (by go_grown)) hn hm).mono ?_
  rintro e w1 ⟨rfl, hb1⟩
  obtain ⟨hc_w1, hf_w1⟩ := bcell hb1
  go_wp2
  refine bodyPost_ret (v := .tuple #[.int .i64 0, .bool false]) (by simp [results, Try.results23, go_sem]) rfl ⟨rfl, ?_⟩
  repeat' (first | (with_reducible exact Below.refl _ _) | (with_reducible assumption) | (with_reducible refine bstep ?_ (by with_reducible assumption)) | (with_reducible refine Below.alloc ?_ ?_ _) | (with_reducible refine Below.setCell ?_ ?_ _) | (with_reducible refine Below.drew ?_) | (with_reducible refine below_drewN ?_ _) | omega | (simp only [World.size_alloc, World.size_setCell, World.size_drew]; omega) | (simp; omega))
theorem s_FirstMissing_no (lv a b : Int) (p q : Option Addr) (n m c d : Nat) (ins outs : List Int) (w : World) (h : IntsAt w p n ins) (h' : IntsAt w q m outs) (hn : n ≤ 1048576) (hm : m ≤ 1048576) (hd : goodDay lv a b ins outs = false) :
    Calls Try.prog 21 #[.agg #[.int .i64 lv, .int .i64 a, .int .i64 b], .slice p n c, .slice q m d] w fun e w' => e = .returned (.tuple #[.int .i64 0, .bool false]) ∧ Below w.heap.size w w' := by
  have H := hid h
  have H' := hid h'
  clear h h'
  go_enter Try.func21, Try.ntmps21
  go_wp2_with fail
  refine (s_l11Day _ _ _ _ _ _ _ _ _ _ _ _ (H.out.below (by go_grown)) (H'.out.below (by go_grown)) hn hm).mono ?_
  rintro e w1 ⟨rfl, hb1⟩
  obtain ⟨hc_w1, hf_w1⟩ := bcell hb1
  go_wp2
  refine bodyPost_ret (v := .tuple #[.int .i64 0, .bool false]) (by simp [results, Try.results21, go_sem]) rfl ⟨rfl, ?_⟩
  repeat' (first | (with_reducible exact Below.refl _ _) | (with_reducible assumption) | (with_reducible refine bstep ?_ (by with_reducible assumption)) | (with_reducible refine Below.alloc ?_ ?_ _) | (with_reducible refine Below.setCell ?_ ?_ _) | (with_reducible refine Below.drew ?_) | (with_reducible refine below_drewN ?_ _) | omega | (simp only [World.size_alloc, World.size_setCell, World.size_drew]; omega) | (simp; omega))
theorem i_LeastStart_no (lv a b : Int) (p q : Option Addr) (n m c d : Nat) (ins outs : List Int) (w : World) (h : IntsAt w p n ins) (h' : IntsAt w q m outs) (hn : n ≤ 1048576) (hm : m ≤ 1048576) (hd : goodDay lv a b ins outs = false) :
    Calls Try.prog 34 #[.agg #[.int .i64 lv, .int .i64 a, .int .i64 b], .slice p n c, .slice q m d] w fun e w' => e = .returned (.tuple #[.int .i64 0, .bool false]) ∧ Below w.heap.size w w' := by
  have H := hid h
  have H' := hid h'
  clear h h'
  go_enter Try.func34, Try.ntmps34
  go_wp2_with fail
  refine (i_isTankDay _ _ _ _ _ _ _ _ _ _ _ _ (H.out.below (by go_grown)) (H'.out.below (by go_grown)) hn hm).mono ?_
  rintro e w1 ⟨rfl, hb1⟩
  obtain ⟨hc_w1, hf_w1⟩ := bcell hb1
  go_wp2
  refine bodyPost_ret (v := .tuple #[.int .i64 0, .bool false]) (by simp [results, Try.results34, go_sem]) rfl ⟨rfl, ?_⟩
  repeat' (first | (with_reducible exact Below.refl _ _) | (with_reducible assumption) | (with_reducible refine bstep ?_ (by with_reducible assumption)) | (with_reducible refine Below.alloc ?_ ?_ _) | (with_reducible refine Below.setCell ?_ ?_ _) | (with_reducible refine Below.drew ?_) | (with_reducible refine below_drewN ?_ _) | omega | (simp only [World.size_alloc, World.size_setCell, World.size_drew]; omega) | (simp; omega))
theorem s_LeastStart_no (lv a b : Int) (p q : Option Addr) (n m c d : Nat) (ins outs : List Int) (w : World) (h : IntsAt w p n ins) (h' : IntsAt w q m outs) (hn : n ≤ 1048576) (hm : m ≤ 1048576) (hd : goodDay lv a b ins outs = false) :
    Calls Try.prog 33 #[.agg #[.int .i64 lv, .int .i64 a, .int .i64 b], .slice p n c, .slice q m d] w fun e w' => e = .returned (.tuple #[.int .i64 0, .bool false]) ∧ Below w.heap.size w w' := by
  have H := hid h
  have H' := hid h'
  clear h h'
  go_enter Try.func33, Try.ntmps33
  go_wp2_with fail
  refine (s_l11Day _ _ _ _ _ _ _ _ _ _ _ _ (H.out.below (by go_grown)) (H'.out.below (by go_grown)) hn hm).mono ?_
  rintro e w1 ⟨rfl, hb1⟩
  obtain ⟨hc_w1, hf_w1⟩ := bcell hb1
  go_wp2
  refine bodyPost_ret (v := .tuple #[.int .i64 0, .bool false]) (by simp [results, Try.results33, go_sem]) rfl ⟨rfl, ?_⟩
  repeat' (first | (with_reducible exact Below.refl _ _) | (with_reducible assumption) | (with_reducible refine bstep ?_ (by with_reducible assumption)) | (with_reducible refine Below.alloc ?_ ?_ _) | (with_reducible refine Below.setCell ?_ ?_ _) | (with_reducible refine Below.drew ?_) | (with_reducible refine below_drewN ?_ _) | omega | (simp only [World.size_alloc, World.size_setCell, World.size_drew]; omega) | (simp; omega))
theorem i_SteadyLevel_no (lv a b : Int) (p q : Option Addr) (n m c d : Nat) (ins outs : List Int) (w : World) (h : IntsAt w p n ins) (h' : IntsAt w q m outs) (hn : n ≤ 1048576) (hm : m ≤ 1048576) (hd : goodDay lv a b ins outs = false) :
    Calls Try.prog 30 #[.agg #[.int .i64 lv, .int .i64 a, .int .i64 b], .slice p n c, .slice q m d] w fun e w' => e = .returned (.tuple #[.int .i64 0, .bool false]) ∧ Below w.heap.size w w' := by
  have H := hid h
  have H' := hid h'
  clear h h'
  go_enter Try.func30, Try.ntmps30
  go_wp2_with fail
  refine (i_isTankDay _ _ _ _ _ _ _ _ _ _ _ _ (H.out.below (by go_grown)) (H'.out.below (by go_grown)) hn hm).mono ?_
  rintro e w1 ⟨rfl, hb1⟩
  obtain ⟨hc_w1, hf_w1⟩ := bcell hb1
  go_wp2
  refine bodyPost_ret (v := .tuple #[.int .i64 0, .bool false]) (by simp [results, Try.results30, go_sem]) rfl ⟨rfl, ?_⟩
  repeat' (first | (with_reducible exact Below.refl _ _) | (with_reducible assumption) | (with_reducible refine bstep ?_ (by with_reducible assumption)) | (with_reducible refine Below.alloc ?_ ?_ _) | (with_reducible refine Below.setCell ?_ ?_ _) | (with_reducible refine Below.drew ?_) | (with_reducible refine below_drewN ?_ _) | omega | (simp only [World.size_alloc, World.size_setCell, World.size_drew]; omega) | (simp; omega))
theorem s_SteadyLevel_no (lv a b : Int) (p q : Option Addr) (n m c d : Nat) (ins outs : List Int) (w : World) (h : IntsAt w p n ins) (h' : IntsAt w q m outs) (hn : n ≤ 1048576) (hm : m ≤ 1048576) (hd : goodDay lv a b ins outs = false) :
    Calls Try.prog 29 #[.agg #[.int .i64 lv, .int .i64 a, .int .i64 b], .slice p n c, .slice q m d] w fun e w' => e = .returned (.tuple #[.int .i64 0, .bool false]) ∧ Below w.heap.size w w' := by
  have H := hid h
  have H' := hid h'
  clear h h'
  go_enter Try.func29, Try.ntmps29
  go_wp2_with fail
  refine (s_l11Day _ _ _ _ _ _ _ _ _ _ _ _ (H.out.below (by go_grown)) (H'.out.below (by go_grown)) hn hm).mono ?_
  rintro e w1 ⟨rfl, hb1⟩
  obtain ⟨hc_w1, hf_w1⟩ := bcell hb1
  go_wp2
  refine bodyPost_ret (v := .tuple #[.int .i64 0, .bool false]) (by simp [results, Try.results29, go_sem]) rfl ⟨rfl, ?_⟩
  repeat' (first | (with_reducible exact Below.refl _ _) | (with_reducible assumption) | (with_reducible refine bstep ?_ (by with_reducible assumption)) | (with_reducible refine Below.alloc ?_ ?_ _) | (with_reducible refine Below.setCell ?_ ?_ _) | (with_reducible refine Below.drew ?_) | (with_reducible refine below_drewN ?_ _) | omega | (simp only [World.size_alloc, World.size_setCell, World.size_drew]; omega) | (simp; omega))

theorem s_RunTank_no (lv a b : Int) (p q : Option Addr) (n m c d : Nat) (ins outs : List Int) (w : World) (h : IntsAt w p n ins) (h' : IntsAt w q m outs) (hn : n ≤ 1048576) (hm : m ≤ 1048576) (hd : goodDay lv a b ins outs = false) :
    Calls Try.prog 35 #[.agg #[.int .i64 lv, .int .i64 a, .int .i64 b], .slice p n c, .slice q m d] w fun e w' => ∃ a1 c1, e = .returned (.tuple #[.slice a1 0 c1, .int .i64 0, .int .i64 0, .bool false]) ∧ Below w.heap.size w w' ∧ OwnI w' w.heap.size (.slice a1 0 c1) [] := by
  have H := hid h
  have H' := hid h'
  clear h h'
  go_enter Try.func35, Try.ntmps35
  go_wp2_with fail
  refine (s_l11Day _ _ _ _ _ _ _ _ _ _ _ _ (H.out.below (by go_grown)) (H'.out.below (by go_grown)) hn hm).mono ?_
  rintro e w1 ⟨rfl, hb1⟩
  obtain ⟨hc_w1, hf_w1⟩ := bcell hb1
  have B1 := hid (bstep ((Below.refl _ _).alloc (Nat.le_refl _) _ : Below w.heap.size w _) hb1)
  go_wp2
  refine bodyPost_ret (v := .tuple #[.slice (some ⟨w1.heap.size, 0, none⟩) 0 0, .int .i64 0, .int .i64 0, .bool false]) (by simp [results, Try.results35, go_sem]) rfl ?_
  exact ⟨_, _, rfl, B1.out.alloc B1.out.size _, (OwnI.lit0 w1).mono B1.out.size⟩

theorem i_RunTank_yes (lv a b : Int) (p q : Option Addr) (n c d : Nat) (ins outs : List Int) (w : World) (h : IntsAt w p n ins) (h' : IntsAt w q n outs) (hd : goodDay lv a b ins outs = true) :
    Calls Try.prog 36 #[.agg #[.int .i64 lv, .int .i64 a, .int .i64 b], .slice p n c, .slice q n d] w fun e w' =>
      ∃ a1 c1, e = .returned (.tuple #[.slice a1 n c1, .int .i64 (spillsOf a b lv ins outs n).sum, .int .i64 (missOf a b lv ins outs n).sum, .bool true]) ∧ Below w.heap.size w w' ∧ OwnI w' w.heap.size (.slice a1 n c1) (levelsOf a b lv ins outs n) := by
  have hn : n = ins.length ∧ n ≤ 12 := by have := h.1; have := goodDay_iff.1 hd; omega
  have HN := hid hn
  have H := hid h
  have H' := hid h'
  have HD := hid hd
  have B2 := hid (wide (spills_bound hd))
  have B3 := hid (wide (miss_bound hd))
  have L2 := hid (sum_le (spills_bound hd))
  have L3 := hid (sum_le (miss_bound hd))
  rw [← hn.1] at B2 B3 L2 L3
  rw [spillsOf_length] at L2
  rw [missOf_length] at L3
  have hn2 : n ≤ 4194304 := by omega
  clear h h' hn
  go_enter Try.func36, Try.ntmps36
  go_wp2_with fail
  refine (i_isTankDay _ _ _ _ _ _ _ _ _ _ _ _ (H.out.below (by go_grown)) (H'.out.below (by go_grown)) (by have := HN.out; omega) (by have := HN.out; omega)).mono ?_
  rintro e w1 ⟨rfl, hb1⟩
  obtain ⟨hc_w1, hf_w1⟩ := bcell hb1
  have hz_w1_0 : w.heap.size < w1.heap.size := by have := hb1.size; (try simp only [World.size_alloc, World.size_setCell, World.size_drew] at this); omega
  have B1 := hid (bstep ((Below.refl _ _).alloc (Nat.le_refl _) _ : Below w.heap.size w _) hb1)
  go_wp2_with fail
  refine (i_runDay _ _ _ _ _ _ _ _ ins outs _ (H.out.below B1.out) (H'.out.below B1.out) HD.out).mono ?_
  rintro e w2 ⟨a1, c1, a2, c2, a3, c3, rfl, hb2, o1, o2, o3⟩
  have O1 := hid o1
  have O2 := hid o2
  have O3 := hid o3
  have HB2 := hid (bstep B1.out hb2)
  clear o1 o2 o3 hb2
  have A2 : Hid (∀ nq, IntsAt ((w2.alloc (.cells #[.slice a1 n c1, .slice a2 n c2, .slice a3 n c3] 70)).drewN nq) a2 n (spillsOf a b lv ins outs n)) := fun nq => O2.out.at.below (below_drewN ((Below.refl _ _).alloc (Nat.le_refl _) _) nq)
  have A3 : Hid (∀ nq, IntsAt ((w2.alloc (.cells #[.slice a1 n c1, .slice a2 n c2, .slice a3 n c3] 70)).drewN nq) a3 n (missOf a b lv ins outs n)) := fun nq => O3.out.at.below (below_drewN ((Below.refl _ _).alloc (Nat.le_refl _) _) nq)
  go_wp2
  go_quiet ((first | (go_at_call_of 62 (Value.slice a2 n c2); exact quiet_eq (i_sumInts a2 n c2 _ _ (A2.out _) hn2 B2.out)) | (go_at_call_of 62 (Value.slice a3 n c3); exact quiet_eq (i_sumInts a3 n c3 _ _ (A3.out _) hn2 B3.out))))
  go_wp2
  refine bodyPost_ret (v := .tuple #[.slice a1 n c1, .int .i64 (spillsOf a b lv ins outs n).sum, .int .i64 (missOf a b lv ins outs n).sum, .bool true]) (by simp [results, Try.results36, go_sem]) rfl ?_
  exact ⟨_, _, rfl, below_drewN (HB2.out.alloc HB2.out.size _) _, ((O1.out.alloc _).below (bdraws _)).mono B1.out.size⟩

theorem s_RunTank_yes (lv a b : Int) (p q : Option Addr) (n c d : Nat) (ins outs : List Int) (w : World) (h : IntsAt w p n ins) (h' : IntsAt w q n outs) (hd : goodDay lv a b ins outs = true) :
    Calls Try.prog 35 #[.agg #[.int .i64 lv, .int .i64 a, .int .i64 b], .slice p n c, .slice q n d] w fun e w' =>
      ∃ a1 c1, e = .returned (.tuple #[.slice a1 n c1, .int .i64 (spillsOf a b lv ins outs n).sum, .int .i64 (missOf a b lv ins outs n).sum, .bool true]) ∧ Below w.heap.size w w' ∧ OwnI w' w.heap.size (.slice a1 n c1) (levelsOf a b lv ins outs n) := by
  have hn : n = ins.length ∧ n ≤ 12 := by have := h.1; have := goodDay_iff.1 hd; omega
  have HN := hid hn
  have H := hid h
  have H' := hid h'
  have HD := hid hd
  have B2 := hid (wide (spills_bound hd))
  have B3 := hid (wide (miss_bound hd))
  have L2 := hid (sum_le (spills_bound hd))
  have L3 := hid (sum_le (miss_bound hd))
  rw [← hn.1] at B2 B3 L2 L3
  rw [spillsOf_length] at L2
  rw [missOf_length] at L3
  have hn2 : n ≤ 4194304 := by omega
  clear h h' hn
  go_enter Try.func35, Try.ntmps35
  go_wp2_with fail
  refine (s_l11Day _ _ _ _ _ _ _ _ _ _ _ _ (H.out.below (by go_grown)) (H'.out.below (by go_grown)) (by have := HN.out; omega) (by have := HN.out; omega)).mono ?_
  rintro e w1 ⟨rfl, hb1⟩
  obtain ⟨hc_w1, hf_w1⟩ := bcell hb1
  have hz_w1_0 : w.heap.size < w1.heap.size := by have := hb1.size; (try simp only [World.size_alloc, World.size_setCell, World.size_drew] at this); omega
  have B1 := hid (bstep ((Below.refl _ _).alloc (Nat.le_refl _) _ : Below w.heap.size w _) hb1)
  go_wp2_with fail
  refine (s_runDay _ _ _ _ _ _ _ _ _ ins outs _ (H.out.below B1.out) (H'.out.below B1.out) HD.out).mono ?_
  rintro e w2 ⟨a1, c1, a2, c2, a3, c3, rfl, hb2, o1, o2, o3⟩
  have O1 := hid o1
  have O2 := hid o2
  have O3 := hid o3
  have HB2 := hid (bstep B1.out hb2)
  clear o1 o2 o3 hb2
  go_wp2_with fail
  refine (s_l8Sum _ _ _ _ _ O2.out.at hn2 B2.out).mono ?_
  rintro e _ ⟨rfl, rfl⟩
  go_wp2_with fail
  refine (s_l8Sum _ _ _ _ _ O3.out.at hn2 B3.out).mono ?_
  rintro e _ ⟨rfl, rfl⟩
  go_wp2
  refine bodyPost_ret (v := .tuple #[.slice a1 n c1, .int .i64 (spillsOf a b lv ins outs n).sum, .int .i64 (missOf a b lv ins outs n).sum, .bool true]) (by simp [results, Try.results35, go_sem]) rfl ?_
  exact ⟨_, _, rfl, HB2.out, O1.out.mono B1.out.size⟩

theorem i_IsCalm_yes (lv a b : Int) (p q : Option Addr) (n c d : Nat) (ins outs : List Int) (w : World) (h : IntsAt w p n ins) (h' : IntsAt w q n outs) (hd : goodDay lv a b ins outs = true) :
    Calls Try.prog 28 #[.agg #[.int .i64 lv, .int .i64 a, .int .i64 b], .slice p n c, .slice q n d] w fun e w' => e = .returned (.tuple #[.bool ((spillsOf a b lv ins outs n).sum + (missOf a b lv ins outs n).sum == 0), .bool true]) ∧ Below w.heap.size w w' := by
  have hn : n = ins.length ∧ n ≤ 12 := by have := h.1; have := goodDay_iff.1 hd; omega
  have HN := hid hn
  have H := hid h
  have H' := hid h'
  have HD := hid hd
  have B2 := hid (wide (spills_bound hd))
  have B3 := hid (wide (miss_bound hd))
  have L2 := hid (sum_le (spills_bound hd))
  have L3 := hid (sum_le (miss_bound hd))
  rw [← hn.1] at B2 B3 L2 L3
  rw [spillsOf_length] at L2
  rw [missOf_length] at L3
  have hn2 : n ≤ 4194304 := by omega
  clear h h' hn
  have l2 := L2.out
  have l3 := L3.out
  have hn3 : n ≤ 12 := HN.out.2
  have E1 : IntKind.i64.wrap ((spillsOf a b lv ins outs n).sum + (missOf a b lv ins outs n).sum) = (spillsOf a b lv ins outs n).sum + (missOf a b lv ins outs n).sum := IntWalk.i64_in _ (by omega)
  go_enter Try.func28, Try.ntmps28
  go_wp2_with fail
  refine (i_isTankDay _ _ _ _ _ _ _ _ _ _ _ _ (H.out.below (by go_grown)) (H'.out.below (by go_grown)) (by have := HN.out; omega) (by have := HN.out; omega)).mono ?_
  rintro e w1 ⟨rfl, hb1⟩
  obtain ⟨hc_w1, hf_w1⟩ := bcell hb1
  have hz_w1_0 : w.heap.size < w1.heap.size := by have := hb1.size; (try simp only [World.size_alloc, World.size_setCell, World.size_drew] at this); omega
  have B1 := hid (bstep ((Below.refl _ _).alloc (Nat.le_refl _) _ : Below w.heap.size w _) hb1)
  go_wp2_with fail
  refine (i_runDay _ _ _ _ _ _ _ _ ins outs _ (H.out.below B1.out) (H'.out.below B1.out) HD.out).mono ?_
  rintro e w2 ⟨a1, c1, a2, c2, a3, c3, rfl, hb2, o1, o2, o3⟩
  have O1 := hid o1
  have O2 := hid o2
  have O3 := hid o3
  have HB2 := hid (bstep B1.out hb2)
  clear o1 o2 o3 hb2
  have A2 : Hid (∀ nq, IntsAt ((w2.alloc (.cells #[.slice a1 n c1, .slice a2 n c2, .slice a3 n c3] 70)).drewN nq) a2 n (spillsOf a b lv ins outs n)) := fun nq => O2.out.at.below (below_drewN ((Below.refl _ _).alloc (Nat.le_refl _) _) nq)
  have A3 : Hid (∀ nq, IntsAt ((w2.alloc (.cells #[.slice a1 n c1, .slice a2 n c2, .slice a3 n c3] 70)).drewN nq) a3 n (missOf a b lv ins outs n)) := fun nq => O3.out.at.below (below_drewN ((Below.refl _ _).alloc (Nat.le_refl _) _) nq)
  go_wp2
  go_quiet ((first | (go_at_call_of 62 (Value.slice a2 n c2); exact quiet_eq (i_sumInts a2 n c2 _ _ (A2.out _) hn2 B2.out)) | (go_at_call_of 62 (Value.slice a3 n c3); exact quiet_eq (i_sumInts a3 n c3 _ _ (A3.out _) hn2 B3.out))))
  go_wp2
  go_ret2
  exact ⟨rfl, below_drewN (HB2.out.alloc HB2.out.size _) _⟩

theorem s_IsCalm_yes (lv a b : Int) (p q : Option Addr) (n c d : Nat) (ins outs : List Int) (w : World) (h : IntsAt w p n ins) (h' : IntsAt w q n outs) (hd : goodDay lv a b ins outs = true) :
    Calls Try.prog 27 #[.agg #[.int .i64 lv, .int .i64 a, .int .i64 b], .slice p n c, .slice q n d] w fun e w' => e = .returned (.tuple #[.bool ((spillsOf a b lv ins outs n).sum + (missOf a b lv ins outs n).sum == 0), .bool true]) ∧ Below w.heap.size w w' := by
  have hn : n = ins.length ∧ n ≤ 12 := by have := h.1; have := goodDay_iff.1 hd; omega
  have HN := hid hn
  have H := hid h
  have H' := hid h'
  have HD := hid hd
  have B2 := hid (wide (spills_bound hd))
  have B3 := hid (wide (miss_bound hd))
  have L2 := hid (sum_le (spills_bound hd))
  have L3 := hid (sum_le (miss_bound hd))
  rw [← hn.1] at B2 B3 L2 L3
  rw [spillsOf_length] at L2
  rw [missOf_length] at L3
  have hn2 : n ≤ 4194304 := by omega
  clear h h' hn
  have l2 := L2.out
  have l3 := L3.out
  have hn3 : n ≤ 12 := HN.out.2
  go_enter Try.func27, Try.ntmps27
  go_wp2_with fail
  refine (s_l11Day _ _ _ _ _ _ _ _ _ _ _ _ (H.out.below (by go_grown)) (H'.out.below (by go_grown)) (by have := HN.out; omega) (by have := HN.out; omega)).mono ?_
  rintro e w1 ⟨rfl, hb1⟩
  obtain ⟨hc_w1, hf_w1⟩ := bcell hb1
  have hz_w1_0 : w.heap.size < w1.heap.size := by have := hb1.size; (try simp only [World.size_alloc, World.size_setCell, World.size_drew] at this); omega
  have B1 := hid (bstep ((Below.refl _ _).alloc (Nat.le_refl _) _ : Below w.heap.size w _) hb1)
  go_wp2_with fail
  refine (s_runDay _ _ _ _ _ _ _ _ _ ins outs _ (H.out.below B1.out) (H'.out.below B1.out) HD.out).mono ?_
  rintro e w2 ⟨a1, c1, a2, c2, a3, c3, rfl, hb2, o1, o2, o3⟩
  have O1 := hid o1
  have O2 := hid o2
  have O3 := hid o3
  have HB2 := hid (bstep B1.out hb2)
  clear o1 o2 o3 hb2
  go_wp2_with fail
  refine (s_l8Sum _ _ _ _ _ O2.out.at hn2 B2.out).mono ?_
  rintro e _ ⟨rfl, rfl⟩
  go_wp2_with fail
  refine (s_l8Sum _ _ _ _ _ O3.out.at hn2 B3.out).mono ?_
  rintro e _ ⟨rfl, rfl⟩
  go_wp2
  go_ret2
  exact ⟨rfl, HB2.out⟩

end Go.Proofs.Ytbeeonpefmdkeaa
