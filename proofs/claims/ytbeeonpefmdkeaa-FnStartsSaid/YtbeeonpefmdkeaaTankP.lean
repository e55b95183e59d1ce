/-
  Tanks: the plain laws of a day, and StepTank under one name.
-/
import Derived.Test.YtbeeonpefmdkeaaTankRep
import Derived.Test.YtbeeonpefmdkeaaTankApi2
set_option linter.unusedVariables false
set_option linter.unusedSimpArgs false
namespace Go.Proofs.Ytbeeonpefmdkeaa
open Go.RowKit

theorem lv_sum {a b lv : Int} {ins outs : List Int} (hl : outs.length = ins.length) : ∀ k : Nat, k ≤ ins.length → lvAt a b lv ins outs k = lv + (ins.take k).sum - (spillsOf a b lv ins outs k).sum - ((outs.take k).sum - (missOf a b lv ins outs k).sum)
  | 0, _ => by simp [lvAt, spillsOf, missOf]
  | k + 1, hk => by
    have ih := lv_sum (a := a) (b := b) (lv := lv) hl k (by omega)
    rw [take_succ' ins k (by omega), take_succ' outs k (by omega), spillsOf_succ, missOf_succ]
    simp only [List.sum_append, List.sum_cons, List.sum_nil]
    show stLevel a b (lvAt a b lv ins outs k) (ins[k]?.getD 0) (outs[k]?.getD 0) = _
    unfold stLevel
    omega
theorem lv_end {a b lv : Int} {ins outs : List Int} {n : Nat} (hl : outs.length = ins.length) (hn : ins.length = n) : lvAt a b lv ins outs n = lv + ins.sum - (spillsOf a b lv ins outs n).sum - (outs.sum - (missOf a b lv ins outs n).sum) := by
  have h := lv_sum (a := a) (b := b) (lv := lv) hl n (by omega)
  rwa [List.take_of_length_le (by omega), List.take_of_length_le (by omega)] at h
theorem any_pos {l : List Int} (h : ∀ x ∈ l, 0 ≤ x) : l.any pos = decide (0 < l.sum) := by
  induction l with
  | nil => rfl
  | cons x r ih =>
    have h0 := h x (by simp)
    have ih := ih (fun y hy => h y (by simp [hy]))
    have hr : 0 ≤ r.sum := by
      have : ∀ r : List Int, (∀ y ∈ r, 0 ≤ y) → 0 ≤ r.sum := by
        intro r
        induction r with
        | nil => intro _; simp
        | cons z s ihs =>
          intro hz
          have h1 := hz z (by simp)
          have h2 := ihs (fun y hy => hz y (by simp [hy]))
          simp only [List.sum_cons]
          omega
      exact this r (fun y hy => h y (by simp [hy]))
    rw [List.any_cons, ih, List.sum_cons]
    by_cases hx : 0 < x
    · have e1 : pos x = true := by simp [pos, hx]
      have e2 : 0 < x + r.sum := by omega
      simp [e1, e2]
    · have e1 : pos x = false := by simp [pos]; omega
      have e2 : x = 0 := by omega
      subst e2
      simp [e1]
theorem indexFn_lt {p : Int → Bool} {l : List Int} (h : 0 ≤ indexFn p l) : indexFn p l < l.length := by
  unfold indexFn at h ⊢
  cases e : l.findIdx? p with
  | none => rw [e] at h; simp at h
  | some i =>
    have := (List.findIdx?_eq_some_iff_getElem.1 e).1
    show (i : Int) < _
    omega
/-- A late hour: there is one just where something is missing. -/
theorem late_is {a b lv : Int} {ins outs : List Int} (hd : goodDay lv a b ins outs = true) : fmOk (firstMiss a b lv ins outs ins.length) = decide (0 < (missOf a b lv ins outs ins.length).sum) := by
  unfold fmOk firstMiss
  rw [indexFn_any]
  exact any_pos (fun x hx => (miss_bound hd x hx).1)
theorem late_hour {a b lv : Int} {ins outs : List Int} (hd : goodDay lv a b ins outs = true) (h : 0 < (missOf a b lv ins outs ins.length).sum) : fmVal (firstMiss a b lv ins outs ins.length) < ins.length := by
  have h1 := late_is hd
  rw [decide_eq_true h] at h1
  have h2 : 0 ≤ firstMiss a b lv ins outs ins.length := by simpa [fmOk] using h1
  rw [(fm_pos (by omega)).1]
  have := indexFn_lt (p := pos) (l := missOf a b lv ins outs ins.length) h2
  rw [show (missOf a b lv ins outs ins.length).length = ins.length by simp [missOf]] at this
  exact this
theorem levels_in {a b lv : Int} {ins outs : List Int} {n k : Nat} (hd : goodDay lv a b ins outs = true) (hn : ins.length = n) (hk : k < n) : a ≤ (levelsOf a b lv ins outs n)[k]?.getD 0 ∧ (levelsOf a b lv ins outs n)[k]?.getD 0 ≤ b := by
  obtain ⟨h1, h2, h3, h4, h5⟩ := goodDay_iff.1 hd
  have hg := goodTank_iff.1 (lvAt_good h1 h4 h5 h3 (k + 1) (by omega))
  have e : (levelsOf a b lv ins outs n)[k]?.getD 0 = lvAt a b lv ins outs (k + 1) := by simp [levelsOf, hk]
  rw [e]
  omega
theorem levels_fin {a b lv : Int} {ins outs : List Int} {n : Nat} (h : 0 < n) : (levelsOf a b lv ins outs n)[n - 1]?.getD 0 = lvAt a b lv ins outs n := by
  have e : n - 1 + 1 = n := by omega
  simp [levelsOf, show n - 1 < n by omega, e]

theorem ins_wide {l a b : Int} {ins outs : List Int} (hd : goodDay l a b ins outs = true) : ∀ x ∈ ins, 0 ≤ x ∧ x ≤ 1000 := fun x hx => by have := (goodDay_iff.1 hd).2.2.2.1 x hx; omega

/-- What StepTank returns. -/
def stepR (l a b i o : Int) : Int × Int × Int × Int × Int × Bool := if (goodTank l a b && inR i 0 100 && inR o 0 100) = true then (stLevel a b l i o, a, b, stSpill b l i, stMiss a b l i o, true) else (0, 0, 0, 0, 0, false)
theorem stepR_yes {l a b i o L A B S M : Int} (h : stepR l a b i o = (L, A, B, S, M, true)) : L = l + i - S - o + M ∧ goodTank L A B = true ∧ (-1000000 ≤ L ∧ L ≤ 1000000) ∧ (-1000000 ≤ l ∧ l ≤ 1000000) ∧ (-1000000 ≤ S ∧ S ≤ 1000000) ∧ (-1000000 ≤ M ∧ M ≤ 1000000) ∧ (0 ≤ i ∧ i ≤ 100) ∧ (0 ≤ o ∧ o ≤ 100) := by
  unfold stepR at h
  split at h
  · rename_i hh
    have h1 : goodTank l a b = true := by simp at hh; exact hh.1.1
    have hi : inR i 0 100 = true := by simp at hh; exact hh.1.2
    have ho : inR o 0 100 = true := by simp at hh; exact hh.2
    simp only [Prod.mk.injEq, and_true] at h
    obtain ⟨rfl, rfl, rfl, rfl, rfl⟩ := h
    have hi2 := inR_iff.1 hi
    have ho2 := inR_iff.1 ho
    have hg := goodTank_iff.1 h1
    refine ⟨by unfold stLevel; omega, stLevel_in h1 hi ho, ?_⟩
    unfold stLevel stMiss stSpill
    omega
  · simp at h
theorem i_StepTank (l a b i o : Int) (w : World) (L A B S M : Int) (k : Bool) (h : stepR l a b i o = (L, A, B, S, M, k)) :
    Calls Try.prog 19 #[.agg #[.int .i64 l, .int .i64 a, .int .i64 b], .int .i64 i, .int .i64 o] w fun e w' => e = .returned (.tuple #[.agg #[.int .i64 L, .int .i64 A, .int .i64 B], .int .i64 S, .int .i64 M, .bool k]) ∧ Below w.heap.size w w' := by
  unfold stepR at h
  split at h
  · rename_i hh
    simp only [Prod.mk.injEq] at h
    obtain ⟨rfl, rfl, rfl, rfl, rfl, rfl⟩ := h
    exact i_StepTank_yes l a b i o w (by simp at hh; exact hh.1.1) (by simp at hh; exact hh.1.2) (by simp at hh; exact hh.2)
  · rename_i hh
    simp only [Prod.mk.injEq] at h
    obtain ⟨rfl, rfl, rfl, rfl, rfl, rfl⟩ := h
    exact i_StepTank_no l a b i o w (by simpa using hh)
theorem s_StepTank (l a b i o : Int) (w : World) (L A B S M : Int) (k : Bool) (h : stepR l a b i o = (L, A, B, S, M, k)) :
    Calls Try.prog 18 #[.agg #[.int .i64 l, .int .i64 a, .int .i64 b], .int .i64 i, .int .i64 o] w fun e w' => e = .returned (.tuple #[.agg #[.int .i64 L, .int .i64 A, .int .i64 B], .int .i64 S, .int .i64 M, .bool k]) ∧ Below w.heap.size w w' := by
  unfold stepR at h
  split at h
  · rename_i hh
    simp only [Prod.mk.injEq] at h
    obtain ⟨rfl, rfl, rfl, rfl, rfl, rfl⟩ := h
    exact s_StepTank_yes l a b i o w (by simp at hh; exact hh.1.1) (by simp at hh; exact hh.1.2) (by simp at hh; exact hh.2)
  · rename_i hh
    simp only [Prod.mk.injEq] at h
    obtain ⟨rfl, rfl, rfl, rfl, rfl, rfl⟩ := h
    exact s_StepTank_no l a b i o w (by simpa using hh)

theorem l_vInts_same (a b : Option Addr) (n c d : Nat) (l : List Int) (w : World) (h : IntsAt w a n l) (h' : IntsAt w b n l) (hn : n ≤ 4194304) :
    Calls Try.prog 41 #[.slice a n c, .slice b n d] w fun e w' => e = .returned (.bool true) ∧ Below w.heap.size w w' := by
  have h1 := l_vInts_eq a b n c d l l w h h' hn
  rwa [decide_eq_true (rfl : l = l)] at h1

end Go.Proofs.Ytbeeonpefmdkeaa
