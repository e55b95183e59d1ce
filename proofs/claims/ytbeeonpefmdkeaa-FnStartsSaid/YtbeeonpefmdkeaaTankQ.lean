/-
  Tanks: the answers of the program and of the reference under one name each.
-/
import Derived.Test.YtbeeonpefmdkeaaTankP
import Derived.Test.YtbeeonpefmdkeaaTankStart
set_option linter.unusedVariables false
set_option linter.unusedSimpArgs false
namespace Go.Proofs.Ytbeeonpefmdkeaa
open Go.RowKit

/-- A function on a tank and a day that hands back R, whatever the memory. -/
def DayGives (F : Nat) (x y z : Int) (p q : Option Addr) (n m c d : Nat) (ins outs : List Int) (R : Value) : Prop :=
  ∀ W, IntsAt W p n ins → IntsAt W q m outs → Calls Try.prog F #[.agg #[.int .i64 x, .int .i64 y, .int .i64 z], .slice p n c, .slice q m d] W fun e w' => e = .returned R ∧ Below W.heap.size W w'
def DaysGive (F : Nat) (x y z days : Int) (p q : Option Addr) (n m c d : Nat) (ins outs : List Int) (R : Value) : Prop :=
  ∀ W, IntsAt W p n ins → IntsAt W q m outs → Calls Try.prog F #[.agg #[.int .i64 x, .int .i64 y, .int .i64 z], .slice p n c, .slice q m d, .int .i64 days] W fun e w' => e = .returned R ∧ Below W.heap.size W w'

theorem goodDay_lv {x y z v : Int} {ins outs : List Int} (h : goodDay x y z ins outs = true) (h1 : y ≤ v) (h2 : v ≤ z) : goodDay v y z ins outs = true := by
  obtain ⟨a, b⟩ := goodDay_iff.1 h
  have := goodTank_iff.1 a
  exact goodDay_iff.2 ⟨goodTank_iff.2 (by omega), b⟩
theorem rep_fix {y z v : Int} {ins outs : List Int} {n : Nat} (hn : ins.length = n) (h : lvAt y z v ins outs n = v) : ∀ k, repLv y z v ins outs k = v
  | 0 => rfl
  | k + 1 => by
    show lvAt y z (repLv y z v ins outs k) ins outs ins.length = v
    rw [rep_fix hn h k, hn]
    exact h
theorem least_both (x y z : Int) (p q : Option Addr) (n m c d : Nat) (ins outs : List Int) (hn : n ≤ 1048576) (hm : m ≤ 1048576) (hl : ins.length = n) (hl' : outs.length = m) :
    ∃ (v : Int) (k : Bool), DayGives 34 x y z p q n m c d ins outs (.tuple #[.int .i64 v, .bool k]) ∧ DayGives 33 x y z p q n m c d ins outs (.tuple #[.int .i64 v, .bool k]) ∧
      (k = true → m = n ∧ goodDay x y z ins outs = true ∧ (y ≤ v ∧ v ≤ z) ∧ (missOf y z v ins outs n).sum = 0 ∧ (y < v → ¬ (missOf y z (v - 1) ins outs n).sum = 0)) := by
  cases hd : goodDay x y z ins outs
  · exact ⟨0, false, fun W h1 h2 => i_LeastStart_no x y z p q n m c d ins outs W h1 h2 hn hm hd, fun W h1 h2 => s_LeastStart_no x y z p q n m c d ins outs W h1 h2 hn hm hd, fun h => by cases h⟩
  · obtain rfl : n = m := by have := (goodDay_iff.1 hd).2.2.1; omega
    obtain ⟨r, hr⟩ := firstAt (fun x => (missOf y z x ins outs n).sum == 0) y z
    refine ⟨optVal r, r.isSome, fun W h1 h2 => i_LeastStart_yes r x y z p q n c d ins outs W h1 h2 hd hr, fun W h1 h2 => s_LeastStart_yes r x y z p q n c d ins outs W h1 h2 hd hr, fun h => ?_⟩
    cases r with
    | none => cases h
    | some v =>
      obtain ⟨h1, h2, h3, h4⟩ := hr
      refine ⟨rfl, rfl, ⟨h1, h2⟩, by simpa [optVal] using h3, fun h5 h6 => ?_⟩
      have h7 := h4 (v - 1) (by simp [optVal] at h5; omega) (by omega)
      simp only [optVal, Option.getD_some] at h6
      simp [h6] at h7
theorem steady_both (x y z : Int) (p q : Option Addr) (n m c d : Nat) (ins outs : List Int) (hn : n ≤ 1048576) (hm : m ≤ 1048576) (hl : ins.length = n) (hl' : outs.length = m) :
    ∃ (v : Int) (k : Bool), DayGives 30 x y z p q n m c d ins outs (.tuple #[.int .i64 v, .bool k]) ∧ DayGives 29 x y z p q n m c d ins outs (.tuple #[.int .i64 v, .bool k]) ∧
      (k = true → m = n ∧ goodDay x y z ins outs = true ∧ (y ≤ v ∧ v ≤ z) ∧ lvAt y z v ins outs n = v) := by
  cases hd : goodDay x y z ins outs
  · exact ⟨0, false, fun W h1 h2 => i_SteadyLevel_no x y z p q n m c d ins outs W h1 h2 hn hm hd, fun W h1 h2 => s_SteadyLevel_no x y z p q n m c d ins outs W h1 h2 hn hm hd, fun h => by cases h⟩
  · obtain rfl : n = m := by have := (goodDay_iff.1 hd).2.2.1; omega
    obtain ⟨r, hr⟩ := firstAt (fun x => lvAt y z x ins outs n == x) y z
    refine ⟨optVal r, r.isSome, fun W h1 h2 => i_SteadyLevel_yes r x y z p q n c d ins outs W h1 h2 hd hr, fun W h1 h2 => s_SteadyLevel_yes r x y z p q n c d ins outs W h1 h2 hd hr, fun h => ?_⟩
    cases r with
    | none => cases h
    | some v =>
      obtain ⟨h1, h2, h3, h4⟩ := hr
      exact ⟨rfl, rfl, ⟨h1, h2⟩, by simpa [optVal] using h3⟩
theorem first_both (x y z : Int) (p q : Option Addr) (n m c d : Nat) (ins outs : List Int) (hn : n ≤ 1048576) (hm : m ≤ 1048576) (hl : ins.length = n) (hl' : outs.length = m) :
    ∃ (v : Int) (k : Bool), DayGives 23 x y z p q n m c d ins outs (.tuple #[.int .i64 v, .bool k]) ∧ DayGives 21 x y z p q n m c d ins outs (.tuple #[.int .i64 v, .bool k]) := by
  cases hd : goodDay x y z ins outs
  · exact ⟨0, false, fun W h1 h2 => i_FirstMissing_no x y z p q n m c d ins outs W h1 h2 hn hm hd, fun W h1 h2 => s_FirstMissing_no x y z p q n m c d ins outs W h1 h2 hn hm hd⟩
  · obtain rfl : n = m := by have := (goodDay_iff.1 hd).2.2.1; omega
    exact ⟨_, _, fun W h1 h2 => i_FirstMissing_yes x y z p q n c d ins outs W h1 h2 hd, fun W h1 h2 => s_FirstMissing_yes x y z p q n c d ins outs W h1 h2 hd⟩
theorem rep_both (x y z days : Int) (p q : Option Addr) (n m c d : Nat) (ins outs : List Int) (hn : n ≤ 1048576) (hm : m ≤ 1048576) (hl : ins.length = n) (hl' : outs.length = m) :
    ∃ (X Y Z : Int) (k : Bool), DaysGive 32 x y z days p q n m c d ins outs (.tuple #[.agg #[.int .i64 X, .int .i64 Y, .int .i64 Z], .bool k]) ∧ DaysGive 31 x y z days p q n m c d ins outs (.tuple #[.agg #[.int .i64 X, .int .i64 Y, .int .i64 Z], .bool k]) := by
  cases hd : goodDay x y z ins outs && inR days 0 20
  · exact ⟨0, 0, 0, false, fun W h1 h2 => i_RepeatDay_no days x y z p q n m c d ins outs W h1 h2 hn hm hd, fun W h1 h2 => s_RepeatDay_no days x y z p q n m c d ins outs W h1 h2 hn hm hd⟩
  · obtain ⟨h3, h4⟩ := (Bool.and_eq_true _ _).mp hd
    have h5 := inR_iff.1 h4
    obtain rfl : n = m := by have := (goodDay_iff.1 h3).2.2.1; omega
    obtain ⟨D, rfl⟩ : ∃ D : Nat, days = D := ⟨days.toNat, by omega⟩
    exact ⟨_, _, _, _, fun W h1 h2 => i_RepeatDay_yes D (by omega) x y z p q n c d ins outs W h1 h2 h3, fun W h1 h2 => s_RepeatDay_yes D (by omega) x y z p q n c d ins outs W h1 h2 h3⟩

end Go.Proofs.Ytbeeonpefmdkeaa
