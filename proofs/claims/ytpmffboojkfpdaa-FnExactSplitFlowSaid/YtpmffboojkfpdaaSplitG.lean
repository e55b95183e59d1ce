/-
  Split flows, in plain lists: the least sums, and the greedy way that finds the first of the best splits.
-/
import Derived.Test.YtpmffboojkfpdaaBase
set_option linter.unusedVariables false
set_option linter.unusedSimpArgs false
namespace Go.Proofs.Ytpmffboojkfpdaa
open Go.RowKit

def mins (f : Nat → Int) : Nat → Int
  | 0 => 1099511627776
  | k + 1 => min (mins f k) (f k)
theorem mins_le (f : Nat → Int) : ∀ (k p : Nat), p < k → mins f k ≤ f p
  | 0, _, h => by omega
  | k + 1, p, h => by
    unfold mins
    by_cases e : p = k
    · subst e; omega
    · have := mins_le f k p (by omega)
      omega
theorem mins_top (f : Nat → Int) : ∀ k, mins f k ≤ 1099511627776
  | 0 => by unfold mins; omega
  | k + 1 => by
    unfold mins
    have := mins_top f k
    omega
theorem mins_at (f : Nat → Int) : ∀ k, mins f k = 1099511627776 ∨ ∃ p, p < k ∧ mins f k = f p
  | 0 => .inl rfl
  | k + 1 => by
    unfold mins
    rcases mins_at f k with h | ⟨p, hp, h⟩
    · by_cases e : f k ≤ mins f k
      · exact .inr ⟨k, by omega, by omega⟩
      · left; omega
    · by_cases e : f k ≤ mins f k
      · exact .inr ⟨k, by omega, by omega⟩
      · exact .inr ⟨p, by omega, by omega⟩

/-- The energy of a part. -/
def cube (s q : Int) : Int := s * q * q * q
def costs : List Int → List Nat → Int
  | s :: S, q :: P => cube s q + costs S P
  | _, _ => 0
/-- The least sum of the pipes for a flow. -/
def least : List Int → Nat → Int
  | [], q => if q = 0 then 0 else 1099511627776
  | s :: S, q => mins (fun p => cube s p + least S (q - p)) (q + 1)
theorem least_le : ∀ (S : List Int) (P : List Nat), P.length = S.length → least S P.sum ≤ costs S P
  | [], P, h => by
    obtain rfl : P = [] := List.eq_nil_of_length_eq_zero h
    simp [least, costs]
  | s :: S, [], h => by simp at h
  | s :: S, q :: P, h => by
    have ih := least_le S P (by simpa using h)
    unfold least costs
    have := mins_le (fun p => cube s p + least S ((q :: P).sum - p)) ((q :: P).sum + 1) q (by simp; omega)
    simp only [List.sum_cons, Nat.add_sub_cancel_left] at this
    simp only [List.sum_cons]
    omega
theorem cube_nonneg {s q : Int} (hs : 0 ≤ s) (hq : 0 ≤ q) : 0 ≤ cube s q := by
  unfold cube
  exact Int.mul_nonneg (Int.mul_nonneg (Int.mul_nonneg hs hq) hq) hq
theorem least_top : ∀ (S : List Int) (q : Nat), least S q ≤ 1099511627776
  | [], q => by unfold least; split <;> omega
  | s :: S, q => by unfold least; exact mins_top _ _
theorem least_at : ∀ (S : List Int) (q : Nat), (∀ s ∈ S, 1 ≤ s) → least S q = 1099511627776 ∨ ∃ P : List Nat, P.length = S.length ∧ P.sum = q ∧ costs S P = least S q
  | [], q, _ => by
    by_cases h : q = 0
    · exact .inr ⟨[], rfl, by simp [h], by simp [least, costs, h]⟩
    · left; simp [least, h]
  | s :: S, q, hs => by
    unfold least
    rcases mins_at (fun p => cube s p + least S (q - p)) (q + 1) with h | ⟨p, hp, h⟩
    · exact .inl h
    · rcases least_at S (q - p) (fun x hx => hs x (by simp [hx])) with h2 | ⟨P, h1, h2, h3⟩
      · left
        have := mins_top (fun p => cube s p + least S (q - p)) (q + 1)
        have := cube_nonneg (s := s) (q := (p : Int)) (by have := hs s (by simp); omega) (by omega)
        omega
      · exact .inr ⟨p :: P, by simp [h1], by simp [h2]; omega, by rw [h, costs, h3]⟩

/-- What one unit more costs. -/
def marg (s q : Int) : Int := cube s (q + 1) - cube s q
theorem marg_eq (s q : Int) : marg s q = s * (3 * q * q + 3 * q + 1) := by
  unfold marg cube
  simp only [Int.mul_add, Int.add_mul, Int.mul_one, Int.one_mul]
  have e1 : s * (3 * q * q) = 3 * (s * q * q) := by
    rw [show (3 : Int) * q * q = 3 * (q * q) from Int.mul_assoc _ _ _, ← Int.mul_assoc, Int.mul_comm s 3, Int.mul_assoc, Int.mul_assoc]
  have e2 : s * (3 * q) = 3 * (s * q) := by rw [← Int.mul_assoc, Int.mul_comm s 3, Int.mul_assoc]
  rw [e1, e2]
  omega
theorem marg_lt {s p q : Int} (hs : 1 ≤ s) (hp : 0 ≤ p) (h : p < q) : marg s p < marg s q := by
  rw [marg_eq, marg_eq]
  have h1 : p * p ≤ q * q := Int.mul_le_mul (by omega) (by omega) hp (by omega)
  have h2 : 3 * p * p + 3 * p + 1 < 3 * q * q + 3 * q + 1 := by
    rw [Int.mul_assoc, Int.mul_assoc]
    omega
  exact Int.mul_lt_mul_of_pos_left h2 (by omega)
theorem marg_le {s p q : Int} (hs : 1 ≤ s) (hp : 0 ≤ p) (h : p ≤ q) : marg s p ≤ marg s q := by
  by_cases e : p = q
  · subst e; omega
  · have := marg_lt hs hp (show p < q by omega)
    omega
theorem cube_up {s : Int} (hs : 1 ≤ s) (g : Nat) : ∀ d : Nat, cube s ((g + d : Nat) : Int) - cube s g ≥ (d : Int) * marg s g
  | 0 => by simp
  | d + 1 => by
    have ih := cube_up hs g d
    have h1 := marg_le (p := (g : Int)) (q := ((g + d : Nat) : Int)) hs (by omega) (by omega)
    have e : cube s ((g + (d + 1) : Nat) : Int) - cube s ((g + d : Nat) : Int) = marg s ((g + d : Nat) : Int) := by
      unfold marg
      rw [show (((g + (d + 1) : Nat) : Int)) = ((g + d : Nat) : Int) + 1 by omega]
    have e2 : ((d + 1 : Nat) : Int) * marg s g = (d : Int) * marg s g + marg s g := by rw [Int.natCast_add, Int.add_mul]; simp
    omega
theorem cube_down {s : Int} (hs : 1 ≤ s) (p : Nat) : ∀ d : Nat, cube s ((p + d : Nat) : Int) - cube s p ≤ (d : Int) * marg s (((p + d : Nat) : Int) - 1)
  | 0 => by simp
  | d + 1 => by
    have ih := cube_down hs p d
    have e : cube s ((p + (d + 1) : Nat) : Int) - cube s ((p + d : Nat) : Int) = marg s ((p + d : Nat) : Int) := by
      unfold marg
      rw [show (((p + (d + 1) : Nat) : Int)) = ((p + d : Nat) : Int) + 1 by omega]
    have e3 : ((p + (d + 1) : Nat) : Int) - 1 = ((p + d : Nat) : Int) := by omega
    rw [e3]
    have e2 : ((d + 1 : Nat) : Int) * marg s ((p + d : Nat) : Int) = (d : Int) * marg s ((p + d : Nat) : Int) + marg s ((p + d : Nat) : Int) := by rw [Int.natCast_add, Int.add_mul]; simp
    by_cases h0 : d = 0
    · subst h0
      simp at ih e e2 ⊢
      omega
    · have h1 : marg s (((p + d : Nat) : Int) - 1) ≤ marg s ((p + d : Nat) : Int) := marg_le hs (by omega) (by omega)
      have h2 : (d : Int) * marg s (((p + d : Nat) : Int) - 1) ≤ (d : Int) * marg s ((p + d : Nat) : Int) := Int.mul_le_mul_of_nonneg_left h1 (by omega)
      omega
/-- A price between the last units taken and the next ones: no other split of the same flow costs less. -/
theorem cube_price {s L : Int} {g p : Nat} (hs : 1 ≤ s) (hup : L ≤ marg s g) (hdn : 0 < g → marg s ((g : Int) - 1) ≤ L) : cube s p - cube s g ≥ L * ((p : Int) - g) := by
  by_cases h : g ≤ p
  · obtain ⟨d, rfl⟩ : ∃ d, p = g + d := ⟨p - g, by omega⟩
    have h1 := cube_up hs g d
    have h2 : L * (((g + d : Nat) : Int) - g) = (d : Int) * L := by rw [Int.mul_comm]; congr 1; omega
    have h3 : (d : Int) * L ≤ (d : Int) * marg s g := Int.mul_le_mul_of_nonneg_left hup (by omega)
    omega
  · obtain ⟨d, rfl⟩ : ∃ d, g = p + d := ⟨g - p, by omega⟩
    have h1 := cube_down hs p d
    have h2 : L * ((p : Int) - ((p + d : Nat) : Int)) = -((d : Int) * L) := by
      rw [show (p : Int) - ((p + d : Nat) : Int) = -(d : Int) by omega, Int.mul_neg, Int.mul_comm]
    have h3 : (d : Int) * marg s (((p + d : Nat) : Int) - 1) ≤ (d : Int) * L := Int.mul_le_mul_of_nonneg_left (hdn (by omega)) (by omega)
    omega

def sz (S : List Int) (k : Nat) : Int := S[k]?.getD 0
def qt (G : List Nat) (k : Nat) : Nat := G[k]?.getD 0
theorem costs_price {L : Int} : ∀ (S : List Int) (G P : List Nat), G.length = S.length → P.length = S.length → (∀ s ∈ S, 1 ≤ s) → (∀ k, k < S.length → L ≤ marg (sz S k) (qt G k)) → (∀ k, k < S.length → 0 < qt G k → marg (sz S k) ((qt G k : Int) - 1) ≤ L) →
    costs S P - costs S G ≥ L * ((P.sum : Int) - (G.sum : Int))
  | [], G, P, h1, h2, _, _, _ => by
    obtain rfl : G = [] := List.eq_nil_of_length_eq_zero h1
    obtain rfl : P = [] := List.eq_nil_of_length_eq_zero h2
    simp [costs]
  | s :: S, [], P, h1, _, _, _, _ => by simp at h1
  | s :: S, g :: G, [], _, h2, _, _, _ => by simp at h2
  | s :: S, g :: G, p :: P, h1, h2, hs, hu, hd => by
    have ih := costs_price (L := L) S G P (by simpa using h1) (by simpa using h2) (fun x hx => hs x (by simp [hx])) (fun k hk => by simpa [sz, qt] using hu (k + 1) (by simpa using hk)) (fun k hk => by simpa [sz, qt] using hd (k + 1) (by simpa using hk))
    have h0 := cube_price (s := s) (L := L) (g := g) (p := p) (hs s (by simp)) (by simpa [sz, qt] using hu 0 (by simp)) (by simpa [sz, qt] using hd 0 (by simp))
    unfold costs
    simp only [List.sum_cons]
    have e : L * (((p + P.sum : Nat) : Int) - ((g + G.sum : Nat) : Int)) = L * ((p : Int) - g) + L * ((P.sum : Int) - (G.sum : Int)) := by
      rw [← Int.mul_add]; congr 1; omega
    omega

/-- No last unit is dearer than a next one; where it is as dear it stands earlier. -/
def Greedy (S : List Int) (G : List Nat) : Prop := ∀ i j, i < S.length → j < S.length → 0 < qt G i → marg (sz S i) ((qt G i : Int) - 1) < marg (sz S j) (qt G j) ∨ marg (sz S i) ((qt G i : Int) - 1) = marg (sz S j) (qt G j) ∧ i < j
theorem Greedy.tail {s : Int} {S : List Int} {g : Nat} {G : List Nat} (h : Greedy (s :: S) (g :: G)) : Greedy S G := fun i j hi hj h0 => by
  have := h (i + 1) (j + 1) (by simpa using hi) (by simpa using hj) (by simpa [qt] using h0)
  simpa [sz, qt] using this
/-- The dearest of the last units. -/
theorem dearest (S : List Int) (G : List Nat) : ∀ k, (∀ i, i < k → qt G i = 0) ∨ ∃ t, t < k ∧ 0 < qt G t ∧ ∀ i, i < k → 0 < qt G i → marg (sz S i) ((qt G i : Int) - 1) ≤ marg (sz S t) ((qt G t : Int) - 1)
  | 0 => .inl (fun i h => by omega)
  | k + 1 => by
    by_cases h0 : 0 < qt G k
    · rcases dearest S G k with h | ⟨t, ht, h1, h2⟩
      · refine .inr ⟨k, by omega, h0, fun i hi hp => ?_⟩
        by_cases e : i = k
        · subst e; omega
        · have := h i (by omega); omega
      · by_cases hc : marg (sz S t) ((qt G t : Int) - 1) ≤ marg (sz S k) ((qt G k : Int) - 1)
        · refine .inr ⟨k, by omega, h0, fun i hi hp => ?_⟩
          by_cases e : i = k
          · subst e; omega
          · have := h2 i (by omega) hp; omega
        · refine .inr ⟨t, by omega, h1, fun i hi hp => ?_⟩
          by_cases e : i = k
          · subst e; omega
          · exact h2 i (by omega) hp
    · rcases dearest S G k with h | ⟨t, ht, h1, h2⟩
      · left
        intro i hi
        by_cases e : i = k
        · subst e; omega
        · exact h i (by omega)
      · refine .inr ⟨t, by omega, h1, fun i hi hp => ?_⟩
        by_cases e : i = k
        · subst e; omega
        · exact h2 i (by omega) hp
theorem sum_zero : ∀ {G : List Nat}, (∀ i, i < G.length → qt G i = 0) → G.sum = 0
  | [], _ => rfl
  | g :: G, h => by
    have h0 := h 0 (by simp)
    have := sum_zero (G := G) (fun i hi => by simpa [qt] using h (i + 1) (by simpa using hi))
    simp [qt] at h0
    simp [h0, this]
theorem zero_sum : ∀ {G : List Nat}, G.sum = 0 → ∀ i, qt G i = 0
  | [], _, i => by simp [qt]
  | g :: G, h, 0 => by simp at h; simp [qt, h.1]
  | g :: G, h, i + 1 => by simp at h; simpa [qt] using zero_sum (G := G) (by simpa using h.2) i
theorem qt_ext : ∀ {G P : List Nat}, G.length = P.length → (∀ i, qt G i = qt P i) → G = P
  | [], [], _, _ => rfl
  | [], _ :: _, h, _ => by simp at h
  | _ :: _, [], h, _ => by simp at h
  | g :: G, p :: P, h, h2 => by
    have h0 := h2 0
    simp [qt] at h0
    rw [h0, qt_ext (G := G) (P := P) (by simpa using h) (fun i => by simpa [qt] using h2 (i + 1))]
theorem greedy_best {S : List Int} {G P : List Nat} (hG : Greedy S G) (h1 : G.length = S.length) (h2 : P.length = S.length) (hs : ∀ s ∈ S, 1 ≤ s) (he : P.sum = G.sum) : costs S G ≤ costs S P ∧ (0 < S.length → qt G 0 < qt P 0 → costs S G < costs S P) := by
  rcases dearest S G S.length with h | ⟨t, ht, h3, h4⟩
  · have hz := sum_zero (fun i hi => h i (by omega))
    have : G = P := qt_ext (by omega) (fun i => by rw [zero_sum hz i, zero_sum (by omega) i])
    subst this
    exact ⟨by omega, fun _ h => by omega⟩
  · generalize hL : marg (sz S t) ((qt G t : Int) - 1) = L at *
    have hu : ∀ k, k < S.length → L ≤ marg (sz S k) (qt G k) := fun k hk => by
      rcases hG t k ht hk h3 with h | h <;> omega
    have hp := costs_price (L := L) S G P h1 h2 hs hu h4
    have e0 : L * ((P.sum : Int) - (G.sum : Int)) = 0 := by rw [he]; simp
    refine ⟨by omega, fun hl hq => ?_⟩
    cases S with
    | nil => simp at hl
    | cons s S =>
    cases G with
    | nil => simp at h1
    | cons g G =>
    cases P with
    | nil => simp at h2
    | cons p P =>
    simp only [qt, List.getElem?_cons_zero, Option.getD_some] at hq
    have hr := costs_price (L := L) S G P (by simpa using h1) (by simpa using h2) (fun x hx => hs x (by simp [hx])) (fun k hk => by simpa [sz, qt] using hu (k + 1) (by simpa using hk)) (fun k hk => by simpa [sz, qt] using h4 (k + 1) (by simpa using hk))
    have hm : L < marg s g := by
      rcases hG t 0 ht (by simp) h3 with h | h
      · simp [sz, qt] at h hL ⊢; omega
      · omega
    obtain ⟨d, rfl⟩ : ∃ d, p = g + d := ⟨p - g, by omega⟩
    have hc := cube_up (s := s) (hs s (by simp)) g d
    have hdl : (d : Int) * L < (d : Int) * marg s g := Int.mul_lt_mul_of_pos_left hm (by omega)
    unfold costs
    simp only [List.sum_cons] at he
    have e1 : L * ((P.sum : Int) - (G.sum : Int)) = -((d : Int) * L) := by
      rw [show (P.sum : Int) - (G.sum : Int) = -(d : Int) by omega, Int.mul_neg, Int.mul_comm]
    omega
theorem costs_small : ∀ (S : List Int) (P : List Nat), (∀ s ∈ S, 1 ≤ s ∧ s ≤ 9) → (∀ q ∈ P, q ≤ 60) → 0 ≤ costs S P ∧ costs S P ≤ 1944000 * S.length
  | [], P, _, _ => by simp [costs]
  | s :: S, [], _, _ => by simp [costs]; omega
  | s :: S, q :: P, hs, hq => by
    have ih := costs_small S P (fun x hx => hs x (by simp [hx])) (fun x hx => hq x (by simp [hx]))
    obtain ⟨h1, h2⟩ := hs s (by simp)
    have h3 := hq q (by simp)
    have c0 := cube_nonneg (s := s) (q := (q : Int)) (by omega) (by omega)
    have c1 : cube s q ≤ 1944000 := by
      unfold cube
      have a1 : s * (q : Int) ≤ 9 * 60 := Int.mul_le_mul h2 (by omega) (by omega) (by omega)
      have a0 : 0 ≤ s * (q : Int) := Int.mul_nonneg (by omega) (by omega)
      have b1 : s * (q : Int) * q ≤ 9 * 60 * 60 := Int.mul_le_mul a1 (by omega) (by omega) (by omega)
      have b0 : 0 ≤ s * (q : Int) * q := Int.mul_nonneg a0 (by omega)
      have d1 : s * (q : Int) * q * q ≤ 9 * 60 * 60 * 60 := Int.mul_le_mul b1 (by omega) (by omega) (by omega)
      omega
    unfold costs
    simp only [List.length_cons]
    omega
/-- The first part of the best split: the greatest one at which the least sum is met. -/
theorem greedy_least {S : List Int} {G : List Nat} (hG : Greedy S G) (h1 : G.length = S.length) (hs : ∀ s ∈ S, 1 ≤ s ∧ s ≤ 9) (hl : S.length ≤ 5) (hq : ∀ q ∈ G, q ≤ 60) : least S G.sum = costs S G := by
  have hc := costs_small S G hs hq
  have a := least_le S G h1
  rcases least_at S G.sum (fun s h => (hs s h).1) with h | ⟨P, p1, p2, p3⟩
  · omega
  · have := (greedy_best hG h1 p1 (fun s h => (hs s h).1) p2).1
    omega
theorem greedy_first {s : Int} {S : List Int} {g : Nat} {G : List Nat} (hG : Greedy (s :: S) (g :: G)) (h1 : G.length = S.length) (hs : ∀ x ∈ s :: S, 1 ≤ x ∧ x ≤ 9) (hl : S.length ≤ 4) (hq : ∀ q ∈ g :: G, q ≤ 60) :
    cube s g + least S ((g :: G).sum - g) = least (s :: S) (g :: G).sum ∧ ∀ q : Nat, g < q → q ≤ (g :: G).sum → cube s q + least S ((g :: G).sum - q) ≠ least (s :: S) (g :: G).sum := by
  have e1 := greedy_least hG (by simp [h1]) hs (by simp; omega) hq
  have e2 := greedy_least hG.tail h1 (fun x hx => hs x (by simp [hx])) (by omega) (fun x hx => hq x (by simp [hx]))
  have e3 : (g :: G).sum - g = G.sum := by simp
  have hc := costs_small (s :: S) (g :: G) hs hq
  simp only [List.length_cons] at hc
  rw [e1, e3, e2]
  refine ⟨by simp [costs], fun q h2 h3 => ?_⟩
  have h0 := cube_nonneg (s := s) (q := (q : Int)) (by have := (hs s (by simp)).1; omega) (by omega)
  rcases least_at S ((g :: G).sum - q) (fun x h => (hs x (by simp [h])).1) with h | ⟨P, p1, p2, p3⟩
  · omega
  · have := (greedy_best (P := q :: P) hG (by simp [h1]) (by simp [p1]) (fun x h => (hs x h).1) (by simp [p2] at h3 ⊢; omega)).2 (by simp) (by simpa [qt] using h2)
    simp only [costs] at this ⊢
    omega

/-- One unit more, where it costs least, first of several. -/
theorem Greedy.more {S : List Int} {G : List Nat} {b : Nat} (hG : Greedy S G) (h1 : G.length = S.length) (hs : ∀ s ∈ S, 1 ≤ s) (hb : b < S.length) (hlt : ∀ j, j < b → marg (sz S b) (qt G b) < marg (sz S j) (qt G j)) (hle : ∀ j, j < S.length → marg (sz S b) (qt G b) ≤ marg (sz S j) (qt G j)) : Greedy S (G.set b (qt G b + 1)) := by
  have hq : ∀ i, qt (G.set b (qt G b + 1)) i = if i = b then qt G b + 1 else qt G i := fun i => by
    unfold qt
    rw [List.getElem?_set]
    by_cases e : b = i
    · subst e; simp [show b < G.length by omega]
    · rw [if_neg e, if_neg (fun h => e h.symm)]
  have hsz : ∀ i, i < S.length → 1 ≤ sz S i := fun i hi => by
    unfold sz
    rw [List.getElem?_eq_getElem hi]
    exact hs _ (List.getElem_mem hi)
  intro i j hi hj h0
  rw [hq i, hq j] at *
  by_cases ei : i = b
  · subst ei
    rw [if_pos rfl]
    have e : (((qt G i + 1 : Nat) : Int)) - 1 = qt G i := by omega
    rw [e]
    by_cases ej : j = i
    · subst ej
      rw [if_pos rfl]
      left
      exact marg_lt (hsz j hj) (by omega) (by omega)
    · rw [if_neg ej]
      have h5 := hle j hj
      by_cases h6 : j < i
      · exact .inl (hlt j h6)
      · by_cases h7 : marg (sz S i) (qt G i) < marg (sz S j) (qt G j)
        · exact .inl h7
        · exact .inr ⟨by omega, by omega⟩
  · rw [if_neg ei] at h0 ⊢
    by_cases ej : j = b
    · subst ej
      rw [if_pos rfl]
      left
      have h5 := marg_lt (s := sz S j) (p := (qt G j : Int)) (q := ((qt G j + 1 : Nat) : Int)) (hsz j hj) (by omega) (by omega)
      rcases hG i j hi hj h0 with h | h <;> omega
    · rw [if_neg ej]
      exact hG i j hi hj h0

end Go.Proofs.Ytpmffboojkfpdaa
