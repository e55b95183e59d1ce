/-
  What the functions on one tank and one hour do.
-/
import Derived.Test.YtbeeonpefmdkeaaFuncs
set_option linter.unusedVariables false
set_option linter.unusedSimpArgs false
namespace Go.Proofs.Ytbeeonpefmdkeaa
open Go.RowKit

def inR (n lo hi : Int) : Bool := decide (lo ≤ n ∧ n ≤ hi)
theorem inR_iff {n lo hi : Int} : inR n lo hi = true ↔ lo ≤ n ∧ n ≤ hi := by simp [inR]

def goodTank (l a b : Int) : Bool := decide (0 ≤ a ∧ a ≤ l ∧ l ≤ b ∧ b ≤ 60)
theorem goodTank_iff {l a b : Int} : goodTank l a b = true ↔ 0 ≤ a ∧ a ≤ l ∧ l ≤ b ∧ b ≤ 60 := by simp [goodTank]

theorem i_inside (n lo hi : Int) (w : World) : Calls Try.prog 68 #[.int .i64 n, .int .i64 lo, .int .i64 hi] w fun e w' => e = .returned (.bool (inR n lo hi)) ∧ w = w' := by
  go_enter Try.func68, Try.ntmps68
  go_wp2
  all_goals go_ret
  all_goals exact ⟨ret_bool (by simp [inR] <;> omega), rfl⟩
theorem s_l1In (n lo hi : Int) (w : World) : Calls Try.prog 67 #[.int .i64 n, .int .i64 lo, .int .i64 hi] w fun e w' => e = .returned (.bool (inR n lo hi)) ∧ w = w' := by
  go_enter Try.func67, Try.ntmps67
  go_wp2
  all_goals go_ret
  all_goals exact ⟨ret_bool (by simp [inR] <;> omega), rfl⟩
theorem i_IsValidTank (l a b : Int) (w : World) : Calls Try.prog 17 #[.agg #[.int .i64 l, .int .i64 a, .int .i64 b]] w fun e w' => e = .returned (.bool (goodTank l a b)) ∧ Below w.heap.size w w' := by
  go_enter Try.func17, Try.ntmps17
  go_wp2
  all_goals go_ret
  all_goals refine ⟨ret_bool ?_, by go_grown⟩
  all_goals (rw [Bool.eq_iff_iff, goodTank_iff]; (try simp only [decide_eq_true_eq, Bool.false_eq_true, false_iff]); omega)
theorem s_l11Good (l a b : Int) (w : World) : Calls Try.prog 50 #[.agg #[.int .i64 l, .int .i64 a, .int .i64 b]] w fun e w' => e = .returned (.bool (goodTank l a b)) ∧ Below w.heap.size w w' := by
  go_enter Try.func50, Try.ntmps50
  go_wp2
  all_goals go_ret
  all_goals refine ⟨ret_bool ?_, by go_grown⟩
  all_goals (rw [Bool.eq_iff_iff, goodTank_iff]; (try simp only [decide_eq_true_eq, Bool.false_eq_true, false_iff]); omega)

theorem s_IsValidTank (l a b : Int) (w : World) : Calls Try.prog 15 #[.agg #[.int .i64 l, .int .i64 a, .int .i64 b]] w fun e w' => e = .returned (.bool (goodTank l a b)) ∧ Below w.heap.size w w' := by
  go_enter Try.func15, Try.ntmps15
  go_wp2_with fail
  refine (s_l11Good _ _ _ _).mono ?_
  rintro e w' ⟨rfl, hb⟩
  go_wp2
  go_ret
  exact ⟨rfl, bstep ((Below.refl _ _).alloc (Nat.le_refl _) _) hb⟩

theorem l_toTank (l a b : Int) (w : World) : Calls Try.prog 16 #[.agg #[.int .i64 l, .int .i64 a, .int .i64 b]] w fun e w' => e = .returned (.agg #[.int .i64 l, .int .i64 a, .int .i64 b]) ∧ Below w.heap.size w w' := by
  go_enter Try.func16, Try.ntmps16
  go_wp2
  go_returns
  exact ⟨rfl, by go_grown⟩

theorem l_eqTank (l a b : Int) (w : World) : Calls Try.prog 20 #[.agg #[.int .i64 l, .int .i64 a, .int .i64 b], .agg #[.int .i64 l, .int .i64 a, .int .i64 b]] w fun e w' => e = .returned (.bool true) ∧ Below w.heap.size w w' := by
  go_enter Try.func20, Try.ntmps20
  go_wp2
  go_ret
  exact ⟨rfl, by go_grown⟩

theorem i_isHourly (n : Int) (w : World) : Calls Try.prog 53 #[.int .i64 n] w fun e w' => e = .returned (.bool (inR n 0 100)) ∧ w = w' := by
  go_enter Try.func53, Try.ntmps53
  go_wp2_with fail
  refine (i_inside _ _ _ _).mono ?_
  rintro e w' ⟨rfl, rfl⟩
  go_wp2
  go_ret
  exact ⟨rfl, rfl⟩
theorem s_l11Volume (n : Int) (w : World) : Calls Try.prog 51 #[.int .i64 n] w fun e w' => e = .returned (.bool (inR n 0 100)) ∧ w = w' := by
  go_enter Try.func51, Try.ntmps51
  go_wp2_with fail
  refine (s_l1In _ _ _ _).mono ?_
  rintro e w' ⟨rfl, rfl⟩
  go_wp2
  go_ret
  exact ⟨rfl, rfl⟩

/-- What is spilled in an hour, the level behind it, what is missing. -/
def stSpill (b lv i : Int) : Int := max (lv + i - b) 0
def stMiss (a b lv i o : Int) : Int := max (a - (lv + i - (stSpill b lv i + o))) 0
def stLevel (a b lv i o : Int) : Int := lv + i - (stSpill b lv i + o) + stMiss a b lv i o

theorem stLevel_in {a b lv i o : Int} (h : goodTank lv a b = true) (hi : inR i 0 100 = true) (ho : inR o 0 100 = true) : goodTank (stLevel a b lv i o) a b = true := by
  rw [goodTank_iff] at *; rw [inR_iff] at *
  unfold stLevel stMiss stSpill
  omega

theorem i_stepTank (l a b i o : Int) (w : World) (h : goodTank l a b = true) (hi : inR i 0 100 = true) (ho : inR o 0 100 = true) :
    Calls Try.prog 54 #[.agg #[.int .i64 l, .int .i64 a, .int .i64 b], .int .i64 i, .int .i64 o] w fun e w' =>
      e = .returned (.tuple #[.agg #[.int .i64 (stLevel a b l i o), .int .i64 a, .int .i64 b], .int .i64 (stSpill b l i), .int .i64 (stMiss a b l i o)]) ∧ Below w.heap.size w w' := by
  have h1 := goodTank_iff.1 h
  have h2 := inR_iff.1 hi
  have h3 := inR_iff.1 ho
  have F1 : Hid (∀ x y z : Int, stLevel a b l i o = x ∧ stSpill b l i = y ∧ stMiss a b l i o = z → Ending.returned (Value.tuple #[.agg #[.int .i64 x, .int .i64 a, .int .i64 b], .int .i64 y, .int .i64 z]) = .returned (.tuple #[.agg #[.int .i64 (stLevel a b l i o), .int .i64 a, .int .i64 b], .int .i64 (stSpill b l i), .int .i64 (stMiss a b l i o)])) := by
    rintro x y z ⟨rfl, rfl, rfl⟩; rfl
  clear h hi ho
  go_enter Try.func54, Try.ntmps54
  go_wp2
  all_goals go_returns
  all_goals refine ⟨F1.out _ _ _ ?_, by go_grown⟩
  all_goals (unfold stLevel stMiss stSpill; refine ⟨?_, ?_, ?_⟩ <;> omega)

theorem s_l11Step (l0 a b lv i o : Int) (w : World) (h : goodTank lv a b = true) (hi : inR i 0 100 = true) (ho : inR o 0 100 = true) :
    Calls Try.prog 52 #[.agg #[.int .i64 l0, .int .i64 a, .int .i64 b], .int .i64 lv, .int .i64 i, .int .i64 o] w fun e w' =>
      e = .returned (.tuple #[.int .i64 (stLevel a b lv i o), .int .i64 (stSpill b lv i), .int .i64 (stMiss a b lv i o)]) ∧ Below w.heap.size w w' := by
  have h1 := goodTank_iff.1 h
  have h2 := inR_iff.1 hi
  have h3 := inR_iff.1 ho
  have F1 : Hid (∀ x y z : Int, stLevel a b lv i o = x ∧ stSpill b lv i = y ∧ stMiss a b lv i o = z → Ending.returned (Value.tuple #[.int .i64 x, .int .i64 y, .int .i64 z]) = .returned (.tuple #[.int .i64 (stLevel a b lv i o), .int .i64 (stSpill b lv i), .int .i64 (stMiss a b lv i o)])) := by
    rintro x y z ⟨rfl, rfl, rfl⟩; rfl
  clear h hi ho
  go_enter Try.func52, Try.ntmps52
  go_wp2
  all_goals go_ret3
  all_goals refine ⟨F1.out _ _ _ ?_, by go_grown⟩
  all_goals (unfold stLevel stMiss stSpill; refine ⟨?_, ?_, ?_⟩ <;> omega)

theorem i_StepTank_yes (l a b i o : Int) (w : World) (h : goodTank l a b = true) (hi : inR i 0 100 = true) (ho : inR o 0 100 = true) :
    Calls Try.prog 19 #[.agg #[.int .i64 l, .int .i64 a, .int .i64 b], .int .i64 i, .int .i64 o] w fun e w' =>
      e = .returned (.tuple #[.agg #[.int .i64 (stLevel a b l i o), .int .i64 a, .int .i64 b], .int .i64 (stSpill b l i), .int .i64 (stMiss a b l i o), .bool true]) ∧ Below w.heap.size w w' := by
  have HS := hid (fun w => i_stepTank l a b i o w h hi ho)
  go_enter Try.func19, Try.ntmps19
  go_wp2_with fail
  refine (i_IsValidTank _ _ _ _).mono ?_
  rintro e w1 ⟨rfl, hb1⟩
  obtain ⟨hc_w1, hf_w1⟩ := bcell hb1
  have hz_w1_0 : w.heap.size < w1.heap.size := by have := hb1.size; (try simp only [World.size_alloc, World.size_setCell, World.size_drew] at this); omega
  have hz_w1_1 : w.heap.size + 1 < w1.heap.size := by have := hb1.size; (try simp only [World.size_alloc, World.size_setCell, World.size_drew] at this); omega
  go_wp2_with fail
  refine (i_isHourly _ _).mono ?_
  rintro e _ ⟨rfl, rfl⟩
  go_wp2_with fail
  refine (i_isHourly _ _).mono ?_
  rintro e _ ⟨rfl, rfl⟩
  go_wp2_with fail
  refine (HS.out _).mono ?_
  rintro e w3 ⟨rfl, hb3⟩
  obtain ⟨hc_w3, hf_w3⟩ := bcell hb3
  have hz_w3_0 : w.heap.size < w3.heap.size := by have := hb3.size; (try simp only [World.size_alloc, World.size_setCell, World.size_drew] at this); omega
  have hz_w3_1 : w.heap.size + 1 < w3.heap.size := by have := hb3.size; (try simp only [World.size_alloc, World.size_setCell, World.size_drew] at this); omega
  go_wp2
  refine bodyPost_ret (v := .tuple #[.agg #[.int .i64 (stLevel a b l i o), .int .i64 a, .int .i64 b], .int .i64 (stSpill b l i), .int .i64 (stMiss a b l i o), .bool true]) (by simp [results, Try.results19, go_sem, *]) rfl ⟨rfl, ?_⟩
  repeat' (first | (with_reducible exact Below.refl _ _) | (with_reducible assumption) | (with_reducible refine bstep ?_ (by with_reducible assumption)) | (with_reducible refine Below.alloc ?_ ?_ _) | (with_reducible refine Below.setCell ?_ ?_ _) | (with_reducible refine Below.drew ?_) | (with_reducible refine below_drewN ?_ _) | omega | (simp only [World.size_alloc, World.size_setCell, World.size_drew]; omega) | (simp; omega))

theorem i_StepTank_no (l a b i o : Int) (w : World) (h : (goodTank l a b && inR i 0 100 && inR o 0 100) = false) :
    Calls Try.prog 19 #[.agg #[.int .i64 l, .int .i64 a, .int .i64 b], .int .i64 i, .int .i64 o] w fun e w' =>
      e = .returned (.tuple #[.agg #[.int .i64 0, .int .i64 0, .int .i64 0], .int .i64 0, .int .i64 0, .bool false]) ∧ Below w.heap.size w w' := by
  cases h1 : goodTank l a b
  · clear h
    go_enter Try.func19, Try.ntmps19
    go_wp2_with fail
    refine (i_IsValidTank _ _ _ _).mono ?_
    rintro e w1 ⟨rfl, hb1⟩
    obtain ⟨hc_w1, hf_w1⟩ := bcell hb1
    have hz_w1_0 : w.heap.size < w1.heap.size := by have := hb1.size; (try simp only [World.size_alloc, World.size_setCell, World.size_drew] at this); omega
    have hz_w1_1 : w.heap.size + 1 < w1.heap.size := by have := hb1.size; (try simp only [World.size_alloc, World.size_setCell, World.size_drew] at this); omega
    go_wp2
    refine bodyPost_ret (v := .tuple #[.agg #[.int .i64 0, .int .i64 0, .int .i64 0], .int .i64 0, .int .i64 0, .bool false]) (by simp [results, Try.results19, go_sem, *]) rfl ⟨rfl, ?_⟩
    repeat' (first | (with_reducible exact Below.refl _ _) | (with_reducible assumption) | (with_reducible refine bstep ?_ (by with_reducible assumption)) | (with_reducible refine Below.alloc ?_ ?_ _) | (with_reducible refine Below.setCell ?_ ?_ _) | (with_reducible refine Below.drew ?_) | (with_reducible refine below_drewN ?_ _) | omega | (simp only [World.size_alloc, World.size_setCell, World.size_drew]; omega) | (simp; omega))
  · cases h2 : inR i 0 100
    · clear h
      go_enter Try.func19, Try.ntmps19
      go_wp2_with fail
      refine (i_IsValidTank _ _ _ _).mono ?_
      rintro e w1 ⟨rfl, hb1⟩
      obtain ⟨hc_w1, hf_w1⟩ := bcell hb1
      have hz_w1_0 : w.heap.size < w1.heap.size := by have := hb1.size; (try simp only [World.size_alloc, World.size_setCell, World.size_drew] at this); omega
      have hz_w1_1 : w.heap.size + 1 < w1.heap.size := by have := hb1.size; (try simp only [World.size_alloc, World.size_setCell, World.size_drew] at this); omega
      go_wp2_with fail
      refine (i_isHourly _ _).mono ?_
      rintro e _ ⟨rfl, rfl⟩
      go_wp2
      refine bodyPost_ret (v := .tuple #[.agg #[.int .i64 0, .int .i64 0, .int .i64 0], .int .i64 0, .int .i64 0, .bool false]) (by simp [results, Try.results19, go_sem, *]) rfl ⟨rfl, ?_⟩
      repeat' (first | (with_reducible exact Below.refl _ _) | (with_reducible assumption) | (with_reducible refine bstep ?_ (by with_reducible assumption)) | (with_reducible refine Below.alloc ?_ ?_ _) | (with_reducible refine Below.setCell ?_ ?_ _) | (with_reducible refine Below.drew ?_) | (with_reducible refine below_drewN ?_ _) | omega | (simp only [World.size_alloc, World.size_setCell, World.size_drew]; omega) | (simp; omega))
    · have h3 : inR o 0 100 = false := by rw [h1, h2] at h; simpa using h
      clear h
      go_enter Try.func19, Try.ntmps19
      go_wp2_with fail
      refine (i_IsValidTank _ _ _ _).mono ?_
      rintro e w1 ⟨rfl, hb1⟩
      obtain ⟨hc_w1, hf_w1⟩ := bcell hb1
      have hz_w1_0 : w.heap.size < w1.heap.size := by have := hb1.size; (try simp only [World.size_alloc, World.size_setCell, World.size_drew] at this); omega
      have hz_w1_1 : w.heap.size + 1 < w1.heap.size := by have := hb1.size; (try simp only [World.size_alloc, World.size_setCell, World.size_drew] at this); omega
      go_wp2_with fail
      refine (i_isHourly _ _).mono ?_
      rintro e _ ⟨rfl, rfl⟩
      go_wp2_with fail
      refine (i_isHourly _ _).mono ?_
      rintro e _ ⟨rfl, rfl⟩
      go_wp2
      refine bodyPost_ret (v := .tuple #[.agg #[.int .i64 0, .int .i64 0, .int .i64 0], .int .i64 0, .int .i64 0, .bool false]) (by simp [results, Try.results19, go_sem, *]) rfl ⟨rfl, ?_⟩
      repeat' (first | (with_reducible exact Below.refl _ _) | (with_reducible assumption) | (with_reducible refine bstep ?_ (by with_reducible assumption)) | (with_reducible refine Below.alloc ?_ ?_ _) | (with_reducible refine Below.setCell ?_ ?_ _) | (with_reducible refine Below.drew ?_) | (with_reducible refine below_drewN ?_ _) | omega | (simp only [World.size_alloc, World.size_setCell, World.size_drew]; omega) | (simp; omega))
theorem s_StepTank_yes (l a b i o : Int) (w : World) (h : goodTank l a b = true) (hi : inR i 0 100 = true) (ho : inR o 0 100 = true) :
    Calls Try.prog 18 #[.agg #[.int .i64 l, .int .i64 a, .int .i64 b], .int .i64 i, .int .i64 o] w fun e w' =>
      e = .returned (.tuple #[.agg #[.int .i64 (stLevel a b l i o), .int .i64 a, .int .i64 b], .int .i64 (stSpill b l i), .int .i64 (stMiss a b l i o), .bool true]) ∧ Below w.heap.size w w' := by
  have HS := hid (fun w => s_l11Step l a b l i o w h hi ho)
  go_enter Try.func18, Try.ntmps18
  go_wp2_with fail
  refine (s_l11Good _ _ _ _).mono ?_
  rintro e w1 ⟨rfl, hb1⟩
  obtain ⟨hc_w1, hf_w1⟩ := bcell hb1
  have hz_w1_0 : w.heap.size < w1.heap.size := by have := hb1.size; (try simp only [World.size_alloc, World.size_setCell, World.size_drew] at this); omega
  have hz_w1_1 : w.heap.size + 1 < w1.heap.size := by have := hb1.size; (try simp only [World.size_alloc, World.size_setCell, World.size_drew] at this); omega
  go_wp2_with fail
  refine (s_l11Volume _ _).mono ?_
  rintro e _ ⟨rfl, rfl⟩
  go_wp2_with fail
  refine (s_l11Volume _ _).mono ?_
  rintro e _ ⟨rfl, rfl⟩
  go_wp2_with fail
  refine (HS.out _).mono ?_
  rintro e w3 ⟨rfl, hb3⟩
  obtain ⟨hc_w3, hf_w3⟩ := bcell hb3
  have hz_w3_0 : w.heap.size < w3.heap.size := by have := hb3.size; (try simp only [World.size_alloc, World.size_setCell, World.size_drew] at this); omega
  have hz_w3_1 : w.heap.size + 1 < w3.heap.size := by have := hb3.size; (try simp only [World.size_alloc, World.size_setCell, World.size_drew] at this); omega
  go_wp2
  refine bodyPost_ret (v := .tuple #[.agg #[.int .i64 (stLevel a b l i o), .int .i64 a, .int .i64 b], .int .i64 (stSpill b l i), .int .i64 (stMiss a b l i o), .bool true]) (by simp [results, Try.results18, go_sem, *]) rfl ⟨rfl, ?_⟩
  repeat' (first | (with_reducible exact Below.refl _ _) | (with_reducible assumption) | (with_reducible refine bstep ?_ (by with_reducible assumption)) | (with_reducible refine Below.alloc ?_ ?_ _) | (with_reducible refine Below.setCell ?_ ?_ _) | (with_reducible refine Below.drew ?_) | (with_reducible refine below_drewN ?_ _) | omega | (simp only [World.size_alloc, World.size_setCell, World.size_drew]; omega) | (simp; omega))

theorem s_StepTank_no (l a b i o : Int) (w : World) (h : (goodTank l a b && inR i 0 100 && inR o 0 100) = false) :
    Calls Try.prog 18 #[.agg #[.int .i64 l, .int .i64 a, .int .i64 b], .int .i64 i, .int .i64 o] w fun e w' =>
      e = .returned (.tuple #[.agg #[.int .i64 0, .int .i64 0, .int .i64 0], .int .i64 0, .int .i64 0, .bool false]) ∧ Below w.heap.size w w' := by
  cases h1 : goodTank l a b
  · clear h
    go_enter Try.func18, Try.ntmps18
    go_wp2_with fail
    refine (s_l11Good _ _ _ _).mono ?_
    rintro e w1 ⟨rfl, hb1⟩
    obtain ⟨hc_w1, hf_w1⟩ := bcell hb1
    have hz_w1_0 : w.heap.size < w1.heap.size := by have := hb1.size; (try simp only [World.size_alloc, World.size_setCell, World.size_drew] at this); omega
    have hz_w1_1 : w.heap.size + 1 < w1.heap.size := by have := hb1.size; (try simp only [World.size_alloc, World.size_setCell, World.size_drew] at this); omega
    go_wp2
    refine bodyPost_ret (v := .tuple #[.agg #[.int .i64 0, .int .i64 0, .int .i64 0], .int .i64 0, .int .i64 0, .bool false]) (by simp [results, Try.results18, go_sem, *]) rfl ⟨rfl, ?_⟩
    repeat' (first | (with_reducible exact Below.refl _ _) | (with_reducible assumption) | (with_reducible refine bstep ?_ (by with_reducible assumption)) | (with_reducible refine Below.alloc ?_ ?_ _) | (with_reducible refine Below.setCell ?_ ?_ _) | (with_reducible refine Below.drew ?_) | (with_reducible refine below_drewN ?_ _) | omega | (simp only [World.size_alloc, World.size_setCell, World.size_drew]; omega) | (simp; omega))
  · cases h2 : inR i 0 100
    · clear h
      go_enter Try.func18, Try.ntmps18
      go_wp2_with fail
      refine (s_l11Good _ _ _ _).mono ?_
      rintro e w1 ⟨rfl, hb1⟩
      obtain ⟨hc_w1, hf_w1⟩ := bcell hb1
      have hz_w1_0 : w.heap.size < w1.heap.size := by have := hb1.size; (try simp only [World.size_alloc, World.size_setCell, World.size_drew] at this); omega
      have hz_w1_1 : w.heap.size + 1 < w1.heap.size := by have := hb1.size; (try simp only [World.size_alloc, World.size_setCell, World.size_drew] at this); omega
      go_wp2_with fail
      refine (s_l11Volume _ _).mono ?_
      rintro e _ ⟨rfl, rfl⟩
      go_wp2
      refine bodyPost_ret (v := .tuple #[.agg #[.int .i64 0, .int .i64 0, .int .i64 0], .int .i64 0, .int .i64 0, .bool false]) (by simp [results, Try.results18, go_sem, *]) rfl ⟨rfl, ?_⟩
      repeat' (first | (with_reducible exact Below.refl _ _) | (with_reducible assumption) | (with_reducible refine bstep ?_ (by with_reducible assumption)) | (with_reducible refine Below.alloc ?_ ?_ _) | (with_reducible refine Below.setCell ?_ ?_ _) | (with_reducible refine Below.drew ?_) | (with_reducible refine below_drewN ?_ _) | omega | (simp only [World.size_alloc, World.size_setCell, World.size_drew]; omega) | (simp; omega))
    · have h3 : inR o 0 100 = false := by rw [h1, h2] at h; simpa using h
      clear h
      go_enter Try.func18, Try.ntmps18
      go_wp2_with fail
      refine (s_l11Good _ _ _ _).mono ?_
      rintro e w1 ⟨rfl, hb1⟩
      obtain ⟨hc_w1, hf_w1⟩ := bcell hb1
      have hz_w1_0 : w.heap.size < w1.heap.size := by have := hb1.size; (try simp only [World.size_alloc, World.size_setCell, World.size_drew] at this); omega
      have hz_w1_1 : w.heap.size + 1 < w1.heap.size := by have := hb1.size; (try simp only [World.size_alloc, World.size_setCell, World.size_drew] at this); omega
      go_wp2_with fail
      refine (s_l11Volume _ _).mono ?_
      rintro e _ ⟨rfl, rfl⟩
      go_wp2_with fail
      refine (s_l11Volume _ _).mono ?_
      rintro e _ ⟨rfl, rfl⟩
      go_wp2
      refine bodyPost_ret (v := .tuple #[.agg #[.int .i64 0, .int .i64 0, .int .i64 0], .int .i64 0, .int .i64 0, .bool false]) (by simp [results, Try.results18, go_sem, *]) rfl ⟨rfl, ?_⟩
      repeat' (first | (with_reducible exact Below.refl _ _) | (with_reducible assumption) | (with_reducible refine bstep ?_ (by with_reducible assumption)) | (with_reducible refine Below.alloc ?_ ?_ _) | (with_reducible refine Below.setCell ?_ ?_ _) | (with_reducible refine Below.drew ?_) | (with_reducible refine below_drewN ?_ _) | omega | (simp only [World.size_alloc, World.size_setCell, World.size_drew]; omega) | (simp; omega))

end Go.Proofs.Ytbeeonpefmdkeaa
