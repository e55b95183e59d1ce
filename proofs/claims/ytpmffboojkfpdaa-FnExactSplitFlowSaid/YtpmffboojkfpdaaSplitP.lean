/-
  The greedy split of a flow (plain): unit by unit, and pipe by pipe by the least sums.
-/
import Derived.Test.YtpmffboojkfpdaaSplitG
set_option linter.unusedVariables false
set_option linter.unusedSimpArgs false
namespace Go.Proofs.Ytpmffboojkfpdaa
open Go.RowKit

/-- The pipe that takes the next unit: the first of the cheapest ones among 0 .. k. -/
def bestK (S : List Int) (G : List Nat) : Nat → Nat
  | 0 => 0
  | k + 1 => if marg (sz S (k + 1)) (qt G (k + 1)) < marg (sz S (bestK S G k)) (qt G (bestK S G k)) then k + 1 else bestK S G k
theorem bestK_le (S : List Int) (G : List Nat) : ∀ k, bestK S G k ≤ k
  | 0 => Nat.le_refl _
  | k + 1 => by
    have := bestK_le S G k
    unfold bestK
    split <;> omega
theorem bestK_least (S : List Int) (G : List Nat) : ∀ k j, j ≤ k → marg (sz S (bestK S G k)) (qt G (bestK S G k)) ≤ marg (sz S j) (qt G j) ∧ (j < bestK S G k → marg (sz S (bestK S G k)) (qt G (bestK S G k)) < marg (sz S j) (qt G j))
  | 0, j, h => by
    obtain rfl : j = 0 := by omega
    unfold bestK
    exact ⟨Int.le_refl _, fun h => by omega⟩
  | k + 1, j, h => by
    have hb := bestK_le S G k
    unfold bestK
    split
    · rename_i hlt
      by_cases e : j = k + 1
      · subst e; exact ⟨Int.le_refl _, fun h => by omega⟩
      · have := (bestK_least S G k j (by omega)).1
        exact ⟨by omega, fun _ => by omega⟩
    · rename_i hlt
      by_cases e : j = k + 1
      · subst e; exact ⟨by omega, fun h => by omega⟩
      · exact bestK_least S G k j (by omega)
/-- The greedy split of k units. -/
def greedy (S : List Int) : Nat → List Nat
  | 0 => List.replicate S.length 0
  | k + 1 => (greedy S k).set (bestK S (greedy S k) (S.length - 1)) (qt (greedy S k) (bestK S (greedy S k) (S.length - 1)) + 1)
theorem greedy_len (S : List Int) : ∀ k, (greedy S k).length = S.length
  | 0 => by simp [greedy]
  | k + 1 => by unfold greedy; rw [List.length_set]; exact greedy_len S k
theorem sum_set : ∀ (G : List Nat) (b : Nat), b < G.length → (G.set b (qt G b + 1)).sum = G.sum + 1
  | [], b, h => by simp at h
  | g :: G, 0, h => by simp [qt]; omega
  | g :: G, b + 1, h => by
    have := sum_set G b (by simpa using h)
    simp only [List.set_cons_succ, List.sum_cons]
    have e : qt (g :: G) (b + 1) = qt G b := by simp [qt]
    rw [e]
    omega
theorem greedy_sum {S : List Int} (h0 : 0 < S.length) : ∀ k, (greedy S k).sum = k
  | 0 => by simp [greedy]
  | k + 1 => by
    unfold greedy
    have hb := bestK_le S (greedy S k) (S.length - 1)
    rw [sum_set _ _ (by rw [greedy_len]; omega), greedy_sum h0 k]
theorem greedy_is {S : List Int} (h0 : 0 < S.length) (hs : ∀ s ∈ S, 1 ≤ s) : ∀ k, Greedy S (greedy S k)
  | 0 => fun i j hi hj h => by
    simp [greedy, qt, hi] at h
  | k + 1 => by
    unfold greedy
    have hb := bestK_le S (greedy S k) (S.length - 1)
    refine (greedy_is h0 hs k).more (greedy_len S k) hs (by omega) (fun j hj => ?_) (fun j hj => ?_)
    · exact (bestK_least S (greedy S k) (S.length - 1) j (by omega)).2 hj
    · exact (bestK_least S (greedy S k) (S.length - 1) j (by omega)).1
theorem qt_le_sum : ∀ (G : List Nat) (i : Nat), qt G i ≤ G.sum
  | [], i => by simp [qt]
  | g :: G, 0 => by simp [qt]
  | g :: G, i + 1 => by
    have := qt_le_sum G i
    have e : qt (g :: G) (i + 1) = qt G i := by simp [qt]
    rw [e, List.sum_cons]; omega
theorem mem_le_sum {G : List Nat} {q : Nat} (h : q ∈ G) : q ≤ G.sum := by
  obtain ⟨i, hi, rfl⟩ := List.mem_iff_getElem.1 h
  have := qt_le_sum G i
  unfold qt at this
  rw [List.getElem?_eq_getElem hi] at this
  exact this

theorem drop_S (S : List Int) (i : Nat) (h : i < S.length) : S.drop i = sz S i :: S.drop (i + 1) := by
  rw [List.drop_eq_getElem_cons h]
  unfold sz
  rw [List.getElem?_eq_getElem h]; rfl
theorem drop_G (G : List Nat) (i : Nat) (h : i < G.length) : G.drop i = qt G i :: G.drop (i + 1) := by
  rw [List.drop_eq_getElem_cons h]
  unfold qt
  rw [List.getElem?_eq_getElem h]; rfl
theorem Greedy.drop {S : List Int} {G : List Nat} (h : Greedy S G) (hl : G.length = S.length) : ∀ i, i ≤ S.length → Greedy (S.drop i) (G.drop i)
  | 0, _ => by simpa using h
  | i + 1, hi => by
    have ih := Greedy.drop h hl i (by omega)
    rw [drop_S S i (by omega), drop_G G i (by omega)] at ih
    exact ih.tail
/-- What is left for the pipes from i on. -/
def rest (G : List Nat) (i : Nat) : Nat := (G.drop i).sum
theorem rest_zero (G : List Nat) : rest G 0 = G.sum := by simp [rest]
theorem rest_succ (G : List Nat) (i : Nat) (h : i < G.length) : rest G i = qt G i + rest G (i + 1) := by
  unfold rest
  rw [drop_G G i h, List.sum_cons]
theorem rest_le (G : List Nat) (i : Nat) : rest G i ≤ G.sum := by
  have e : G.sum = (G.take i).sum + rest G i := by
    unfold rest
    rw [← List.sum_append, List.take_append_drop]
  omega
theorem greedy_at {S : List Int} {k i : Nat} (hS : 1 ≤ S.length ∧ S.length ≤ 5) (hs : ∀ s ∈ S, 1 ≤ s ∧ s ≤ 9) (hk : k ≤ 60) (hi : i < S.length) :
    cube (sz S i) (qt (greedy S k) i) + least (S.drop (i + 1)) (rest (greedy S k) (i + 1)) = least (S.drop i) (rest (greedy S k) i) ∧
    ∀ q : Nat, qt (greedy S k) i < q → q ≤ rest (greedy S k) i → cube (sz S i) q + least (S.drop (i + 1)) (rest (greedy S k) i - q) ≠ least (S.drop i) (rest (greedy S k) i) := by
  have hl := greedy_len S k
  have hG := (greedy_is (S := S) (by omega) (fun s h => (hs s h).1) k).drop hl i (by omega)
  have hsum := greedy_sum (S := S) (by omega) k
  have hr := rest_succ (greedy S k) i (by omega)
  have hq : ∀ q ∈ (greedy S k).drop i, q ≤ 60 := fun q h => by have := mem_le_sum (List.mem_of_mem_drop h); omega
  have hs2 : ∀ x ∈ S.drop i, 1 ≤ x ∧ x ≤ 9 := fun x h => hs x (List.mem_of_mem_drop h)
  have er : rest (greedy S k) i = ((greedy S k).drop i).sum := rfl
  rw [er]
  rw [drop_G _ i (by omega), drop_S S i (by omega)] at *
  have h1 := greedy_first (s := sz S i) (S := S.drop (i + 1)) (g := qt (greedy S k) i) (G := (greedy S k).drop (i + 1)) hG (by simp [hl]) hs2 (by simp; omega) hq
  have e2 : (qt (greedy S k) i :: (greedy S k).drop (i + 1)).sum - qt (greedy S k) i = rest (greedy S k) (i + 1) := by simp [rest]
  rw [e2] at h1
  exact h1
/-- As numbers of the program. -/
def liftN (G : List Nat) : List Int := G.map (fun x : Nat => (x : Int))
theorem liftN_len (G : List Nat) : (liftN G).length = G.length := by simp [liftN]
theorem liftN_get (G : List Nat) (i : Nat) : (liftN G)[i]?.getD 0 = (qt G i : Int) := by
  unfold liftN qt
  rw [List.getElem?_map]
  cases G[i]? <;> simp
theorem liftN_set (G : List Nat) (b v : Nat) : liftN (G.set b v) = (liftN G).set b (v : Int) := by simp [liftN, List.map_set]
theorem liftN_zero (n : Nat) : liftN (List.replicate n 0) = List.replicate n 0 := by simp [liftN]
theorem liftN_take (G : List Nat) (k : Nat) (hk : k < G.length) : liftN (G.take (k + 1)) = liftN (G.take k) ++ [(qt G k : Int)] := by
  unfold liftN qt
  rw [List.take_succ_eq_append_getElem hk, List.map_append, List.getElem?_eq_getElem hk]
  rfl

theorem marg_fit {s : Int} {q : Nat} (hs : 1 ≤ s ∧ s ≤ 9) (hq : q < 60) : 0 ≤ cube s (q + 1) ∧ cube s (q + 1) ≤ 1944000 ∧ 0 ≤ cube s q ∧ cube s q ≤ 1944000 := by
  have h1 : ∀ x : Nat, x ≤ 60 → 0 ≤ cube s x ∧ cube s x ≤ 1944000 := fun x hx => by
    have := costs_small [s] [x] (fun y hy => by simp at hy; subst hy; exact hs) (fun y hy => by simp at hy; subst hy; exact hx)
    simpa [costs] using this
  have a := h1 (q + 1) (by omega)
  have b := h1 q (by omega)
  rw [show (((q + 1 : Nat) : Int)) = (q : Int) + 1 by omega] at a
  exact ⟨a.1, a.2, b.1, b.2⟩
theorem least_range (S : List Int) (q : Nat) (hs : ∀ s ∈ S, 1 ≤ s) : 0 ≤ least S q ∧ least S q ≤ 1099511627776 := by
  refine ⟨?_, least_top S q⟩
  rcases least_at S q hs with h | ⟨P, h1, h2, h3⟩
  · omega
  · rw [← h3]
    clear h1 h2 h3
    induction S generalizing P with
    | nil => cases P <;> simp [costs]
    | cons s S ih =>
      cases P with
      | nil => simp [costs]
      | cons p P =>
        have := ih (fun x hx => hs x (by simp [hx])) P
        have := cube_nonneg (s := s) (q := (p : Int)) (by have := hs s (by simp); omega) (by omega)
        unfold costs
        omega

/-- What SplitFlow returns. -/
def splitF (S : List Int) (t : Int) : List Int × Bool := if (decide (1 ≤ S.length ∧ S.length ≤ 5) && S.all (fun s => decide (1 ≤ s ∧ s ≤ 9)) && decide (0 ≤ t ∧ t ≤ 60)) = true then (liftN (greedy S t.toNat), true) else ([], false)

end Go.Proofs.Ytpmffboojkfpdaa
