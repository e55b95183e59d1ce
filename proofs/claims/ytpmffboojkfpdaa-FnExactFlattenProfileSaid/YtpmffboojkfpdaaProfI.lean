/-
  Flattening a profile, in plain lists.
-/
import Derived.Test.YtpmffboojkfpdaaProfS
set_option linter.unusedVariables false
set_option linter.unusedSimpArgs false
namespace Go.Proofs.Ytpmffboojkfpdaa
open Go.RowKit

abbrev el (L : List Int) (j : Nat) : Int := L[j]?.getD 0
/-- The first index of the greatest, and of the smallest, of the first numbers. -/
def pkTo (L : List Int) : Nat → Nat
  | 0 => 0
  | k + 1 => if el L (pkTo L k) < el L k then k else pkTo L k
def lwTo (L : List Int) : Nat → Nat
  | 0 => 0
  | k + 1 => if el L k < el L (lwTo L k) then k else lwTo L k
theorem pkTo_lt (L : List Int) : ∀ k, 1 ≤ k → pkTo L k < k
  | 0, h => by omega
  | k + 1, _ => by
    unfold pkTo
    split
    · omega
    · by_cases h0 : k = 0
      · subst h0; simp [pkTo]
      · have := pkTo_lt L k (by omega); omega
theorem lwTo_lt (L : List Int) : ∀ k, 1 ≤ k → lwTo L k < k
  | 0, h => by omega
  | k + 1, _ => by
    unfold lwTo
    split
    · omega
    · by_cases h0 : k = 0
      · subst h0; simp [lwTo]
      · have := lwTo_lt L k (by omega); omega
theorem pkTo_max (L : List Int) : ∀ k j, j < k → el L j ≤ el L (pkTo L k)
  | 0, j, h => by omega
  | k + 1, j, h => by
    have ih := pkTo_max L k
    unfold pkTo
    split
    · by_cases e : j = k
      · subst e; exact Int.le_refl _
      · have := ih j (by omega); omega
    · by_cases e : j = k
      · subst e; omega
      · exact ih j (by omega)
theorem lwTo_min (L : List Int) : ∀ k j, j < k → el L (lwTo L k) ≤ el L j
  | 0, j, h => by omega
  | k + 1, j, h => by
    have ih := lwTo_min L k
    unfold lwTo
    split
    · by_cases e : j = k
      · subst e; exact Int.le_refl _
      · have := ih j (by omega); omega
    · by_cases e : j = k
      · subst e; omega
      · exact ih j (by omega)
theorem pkTo_first (L : List Int) : ∀ k j, j < pkTo L k → el L j < el L (pkTo L k)
  | 0, j, h => by simp [pkTo] at h
  | k + 1, j, h => by
    have ih := pkTo_first L k
    unfold pkTo at h ⊢
    split at h
    · rename_i hlt
      rw [if_pos hlt]
      have := pkTo_max L k j h
      omega
    · rename_i hlt
      rw [if_neg hlt]
      exact ih j h
theorem lwTo_first (L : List Int) : ∀ k j, j < lwTo L k → el L (lwTo L k) < el L j
  | 0, j, h => by simp [lwTo] at h
  | k + 1, j, h => by
    have ih := lwTo_first L k
    unfold lwTo at h ⊢
    split at h
    · rename_i hlt
      rw [if_pos hlt]
      have := lwTo_min L k j h
      omega
    · rename_i hlt
      rw [if_neg hlt]
      exact ih j h

theorem sum_set' : ∀ (l : List Int) (i : Nat) (v : Int), i < l.length → (l.set i v).sum = l.sum - el l i + v
  | [], i, v, h => by simp at h
  | x :: l, 0, v, h => by simp [el]; omega
  | x :: l, i + 1, v, h => by
    have ih := sum_set' l i v (by simpa using h)
    simp only [el] at ih
    simp only [List.set_cons_succ, List.sum_cons, el, List.getElem?_cons_succ]
    omega
theorem sum_ge {l : List Int} {B : Int} (h : ∀ x ∈ l, B ≤ x) : B * (l.length : Int) ≤ l.sum := by
  induction l with
  | nil => simp
  | cons x r ih =>
    have h1 := h x (by simp)
    have h2 := ih fun y hy => h y (by simp [hy])
    simp only [List.sum_cons, List.length_cons]
    have e : B * ((r.length + 1 : Nat) : Int) = B * (r.length : Int) + B := by rw [Int.natCast_add, Int.mul_add]; simp
    omega
theorem el_set (l : List Int) (i j : Nat) (v : Int) (h : i < l.length) : el (l.set i v) j = if i = j then v else el l j := by
  unfold el
  by_cases e : i = j
  · subst e; rw [List.getElem?_set_self h, if_pos rfl]; rfl
  · rw [List.getElem?_set_ne e, if_neg e]
theorem mem_el {l : List Int} {x : Int} (h : x ∈ l) : ∃ j, j < l.length ∧ x = el l j := by
  obtain ⟨j, hj, rfl⟩ := List.mem_iff_getElem.1 h
  exact ⟨j, hj, by simp [el, hj]⟩
theorem map_set_sum (l : List Int) (f : Int → Int) (i : Nat) (v : Int) (h : i < l.length) : ((l.set i v).map f).sum = (l.map f).sum - f (el l i) + f v := by
  rw [List.map_set, sum_set' _ _ _ (by simpa using h)]
  have : el (l.map f) i = f (el l i) := by simp [el, h]
  rw [this]

/-- One step: the greatest one less, the smallest one more. -/
def stepF (L : List Int) : List Int :=
  let p := pkTo L 24
  let t := lwTo L 24
  let L1 := L.set p (el L p - 1)
  L1.set t (el L1 t + 1)
/-- How much lies above a number. -/
def exc (most : Int) (L : List Int) : Int := (L.map fun x => max (x - most) 0).sum
theorem exc_pos (most : Int) (L : List Int) : 0 ≤ exc most L := by
  have := sum_ge (l := L.map fun x => max (x - most) 0) (B := 0) (by intro x hx; obtain ⟨y, -, rfl⟩ := List.mem_map.1 hx; omega)
  unfold exc
  omega
theorem low_small {L : List Int} (hg : goodProf L = true) (hp : 100 < el L (pkTo L 24)) : el L (lwTo L 24) < 100 := by
  obtain ⟨h1, h2, h3⟩ := goodProf_iff.1 hg
  apply Classical.byContradiction
  intro hn
  have hall : ∀ j, j < 24 → 100 ≤ el L j := fun j hj => by have := lwTo_min L 24 j hj; omega
  have hpl := pkTo_lt L 24 (by omega)
  have hs := sum_ge (l := L.set (pkTo L 24) 100) (B := 100) (by
    intro x hx
    obtain ⟨j, hj, rfl⟩ := mem_el hx
    rw [el_set _ _ _ _ (by omega)]
    split
    · omega
    · exact hall j (by simpa [h1] using hj))
  rw [sum_set' _ _ _ (by omega), List.length_set, h1, h3] at hs
  omega
theorem stepF_good {L : List Int} {most : Int} (hg : goodProf L = true) (hm : 100 ≤ most) (hp : most < el L (pkTo L 24)) : goodProf (stepF L) = true ∧ exc most (stepF L) + 1 = exc most L := by
  obtain ⟨h1, h2, h3⟩ := goodProf_iff.1 hg
  have hl := low_small hg (by omega)
  have hpl := pkTo_lt L 24 (by omega)
  have htl := lwTo_lt L 24 (by omega)
  have hb : ∀ j, j < 24 → 0 ≤ el L j ∧ el L j ≤ 1000 := fun j hj => h2 _ (getD_mem' (by omega))
  have hne : pkTo L 24 ≠ lwTo L 24 := fun e => by rw [e] at hp; omega
  have e1 : el (L.set (pkTo L 24) (el L (pkTo L 24) - 1)) (lwTo L 24) = el L (lwTo L 24) := by rw [el_set _ _ _ _ (by omega), if_neg hne]
  refine ⟨goodProf_iff.2 ⟨by simp [stepF, h1], ?_, ?_⟩, ?_⟩
  · intro x hx
    obtain ⟨j, hj, rfl⟩ := mem_el hx
    have hj' : j < 24 := by simpa [stepF, h1] using hj
    simp only [stepF]
    rw [el_set _ _ _ _ (by simp; omega)]
    split
    · have := hb _ htl; rw [e1]; omega
    · rw [el_set _ _ _ _ (by omega)]
      split
      · have := hb _ hpl; omega
      · exact hb j hj'
  · simp only [stepF]
    rw [sum_set' _ _ _ (by simp; omega), sum_set' _ _ _ (by omega), e1, h3]
    omega
  · simp only [stepF, exc]
    rw [map_set_sum _ _ _ _ (by simp; omega), map_set_sum _ _ _ _ (by omega), e1]
    omega

def flat (most : Int) : Nat → List Int → List Int
  | 0, L => L
  | k + 1, L => if most < el L (pkTo L 24) then flat most k (stepF L) else L
/-- The flattened list. -/
def fin (most : Int) (L : List Int) : List Int := flat most (exc most L).toNat L
theorem fin_step {L : List Int} {most : Int} (hg : goodProf L = true) (hm : 100 ≤ most) (hp : most < el L (pkTo L 24)) : fin most L = fin most (stepF L) := by
  have h1 := (stepF_good hg hm hp).2
  have h2 := exc_pos most (stepF L)
  unfold fin
  rw [show (exc most L).toNat = (exc most (stepF L)).toNat + 1 by omega, flat, if_pos hp]
theorem fin_done {L : List Int} {most : Int} (hp : ¬ most < el L (pkTo L 24)) : fin most L = L := by
  unfold fin
  cases (exc most L).toNat with
  | zero => rfl
  | succ k => rw [flat, if_neg hp]

/-- What FlattenProfile returns. -/
def flatR (l : List Int) (most : Int) : List Int × Bool := if goodProf l = true ∧ inR most 100 1000 = true then (fin most l, true) else ([], false)

end Go.Proofs.Ytpmffboojkfpdaa
