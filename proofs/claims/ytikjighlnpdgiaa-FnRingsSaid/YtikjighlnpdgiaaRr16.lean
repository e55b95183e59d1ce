/-
  Texts of this claim, joined: RingQ, TurnQ, Node, NetH, NetH3, Bal.
-/
import Derived.Test.YtikjighlnpdgiaaRr3
import Derived.Test.YtikjighlnpdgiaaRr6
import Derived.Test.YtikjighlnpdgiaaRr11
import Derived.Test.YtikjighlnpdgiaaRr12
import Derived.Test.YtikjighlnpdgiaaRr13
import Derived.Test.YtikjighlnpdgiaaRr15
/-
  The best flows of a ring, plain: the first least energy among all turns of the loop, in a wide range and in a narrow one.
-/
set_option linter.unusedVariables false
set_option linter.unusedSimpArgs false
namespace Go.Proofs.Ytikjighlnpdgiaa
open Go.RowKit

/-- The first least place among lo, .., lo + k. -/
def bestT (E : Int → Int) (lo : Int) : Nat → Int
  | 0 => lo
  | k + 1 => if E (lo + ((k : Int) + 1)) < E (bestT E lo k) then lo + ((k : Int) + 1) else bestT E lo k
theorem bestT_yes {E : Int → Int} {lo : Int} {k : Nat} (h : E (lo + ((k : Int) + 1)) < E (bestT E lo k)) : bestT E lo (k + 1) = lo + ((k : Int) + 1) := by simp [bestT, h]
theorem bestT_no {E : Int → Int} {lo : Int} {k : Nat} (h : ¬ E (lo + ((k : Int) + 1)) < E (bestT E lo k)) : bestT E lo (k + 1) = bestT E lo k := by simp [bestT, h]

structure IsFirst (E : Int → Int) (lo hi x : Int) : Prop where
  low : lo ≤ x
  high : x ≤ hi
  bef : ∀ y, lo ≤ y → y < x → E x < E y
  aft : ∀ y, x < y → y ≤ hi → E x ≤ E y

theorem bestT_is (E : Int → Int) (lo : Int) : ∀ k : Nat, IsFirst E lo (lo + k) (bestT E lo k)
  | 0 => ⟨Int.le_refl _, by simp [bestT], fun y h1 h2 => by simp only [bestT] at h2; omega, fun y h1 h2 => by simp only [bestT] at h1; simp at h2; omega⟩
  | k + 1 => by
    obtain ⟨a, b, c, d⟩ := bestT_is E lo k
    by_cases h : E (lo + ((k : Int) + 1)) < E (bestT E lo k)
    · rw [bestT_yes h]
      refine ⟨by omega, by omega, fun y h1 h2 => ?_, fun y h1 h2 => by omega⟩
      by_cases e : y < bestT E lo k
      · have := c y h1 e
        omega
      · by_cases e2 : y = bestT E lo k
        · subst e2; exact h
        · have := d y (by omega) (by omega)
          omega
    · rw [bestT_no h]
      refine ⟨a, by omega, c, fun y h1 h2 => ?_⟩
      by_cases e : y ≤ lo + k
      · exact d y h1 e
      · have e3 : y = lo + ((k : Int) + 1) := by omega
        rw [e3]
        omega
theorem IsFirst.unique {E : Int → Int} {lo hi x y : Int} (h : IsFirst E lo hi x) (k : IsFirst E lo hi y) : x = y := by
  by_cases e : x < y
  · have a := h.aft y e k.high
    have b := k.bef x h.low e
    omega
  · by_cases e2 : y < x
    · have a := k.aft x e2 h.high
      have b := h.bef y k.low e2
      omega
    · omega
theorem IsFirst.wide {E : Int → Int} {lo hi T x : Int} (h : IsFirst E (-T) T x) (hT : 0 ≤ T) (hlo : lo ≤ -T) (hhi : T ≤ hi) (h1 : ∀ y, lo ≤ y → y < -T → E (y + 1) < E y) (h2 : ∀ y, T ≤ y → y < hi → E y ≤ E (y + 1)) : IsFirst E lo hi x := by
  have a : ∀ (n : Nat) (y : Int), y + n = -T → lo ≤ y → E (-T) ≤ E y ∧ (0 < n → E (-T) < E y) := by
    intro n
    induction n with
    | zero =>
      intro y hy _
      have e : y = -T := by omega
      rw [e]
      exact ⟨Int.le_refl _, fun h => absurd h (by omega)⟩
    | succ n ih =>
      intro y hy hl
      have b := h1 y hl (by omega)
      have c := (ih (y + 1) (by omega) (by omega)).1
      exact ⟨by omega, fun _ => by omega⟩
  have b : ∀ (n : Nat) (y : Int), T + n = y → y ≤ hi → E T ≤ E y := by
    intro n
    induction n with
    | zero =>
      intro y hy _
      have e : y = T := by omega
      rw [e]
      exact Int.le_refl _
    | succ n ih =>
      intro y hy hl
      have c := ih (y - 1) (by omega) (by omega)
      have d := h2 (y - 1) (by omega) (by omega)
      rw [show y - 1 + 1 = y by omega] at d
      omega
  have lT : E x ≤ E (-T) := by
    by_cases e : x = -T
    · rw [e]; exact Int.le_refl _
    · have := h.bef (-T) (by omega) (by have := h.low; omega)
      omega
  have hT2 : E x ≤ E T := by
    by_cases e : x = T
    · rw [e]; exact Int.le_refl _
    · exact h.aft T (by have := h.high; omega) (by omega)
  refine ⟨by have := h.low; omega, by have := h.high; omega, fun y y1 y2 => ?_, fun y y1 y2 => ?_⟩
  · by_cases e : y < -T
    · have := (a (-T - y).toNat y (by omega) y1).2 (by omega)
      omega
    · exact h.bef y (by omega) y2
  · by_cases e : y ≤ T
    · exact h.aft y y1 e
    · have := b (y - T).toNat y (by omega) y2
      omega

theorem sq_abs (q : Int) : q * q = max q (-q) * max q (-q) := by
  by_cases h : 0 ≤ q
  · rw [show max q (-q) = q by omega]
  · rw [show max q (-q) = -q by omega, Int.neg_mul_neg]
theorem cube_abs (s q : Int) : s * max q (-q) * q * q = s * (max q (-q) * (max q (-q) * max q (-q))) := by
  rw [Int.mul_assoc, sq_abs, Int.mul_assoc]
theorem cube_lt {s q p : Int} (hs : 1 ≤ s) (h : max q (-q) < max p (-p)) : s * max q (-q) * q * q < s * max p (-p) * p * p := by
  rw [cube_abs, cube_abs]
  have h0 : 0 ≤ max q (-q) := by omega
  generalize max q (-q) = a at *
  generalize max p (-p) = b at *
  have h1 : a * a ≤ b * b := Int.mul_le_mul (by omega) (by omega) h0 (by omega)
  have h2 : 0 < b * b := Int.mul_pos (by omega) (by omega)
  have h3 : a * (a * a) ≤ a * (b * b) := Int.mul_le_mul_of_nonneg_left h1 h0
  have h4 : a * (b * b) < b * (b * b) := Int.mul_lt_mul_of_pos_right h h2
  exact Int.mul_lt_mul_of_pos_left (by omega) (by omega)
theorem cube_eq {s q p : Int} (h : max q (-q) = max p (-p)) : s * max q (-q) * q * q = s * max p (-p) * p * p := by
  rw [cube_abs, cube_abs, h]
theorem cube_le {s q p : Int} (hs : 1 ≤ s) (h : max q (-q) ≤ max p (-p)) : s * max q (-q) * q * q ≤ s * max p (-p) * p * p := by
  by_cases e : max q (-q) = max p (-p)
  · rw [cube_eq e]; exact Int.le_refl _
  · exact Int.le_of_lt (cube_lt hs (by omega))
theorem enrg_mono {l : List Pip} {fs gs : List Int} : ∀ k : Nat, (∀ i, i < k → 1 ≤ (pp l i).2.2.2) → (∀ i, i < k → max (fs[i]?.getD 0) (-(fs[i]?.getD 0)) ≤ max (gs[i]?.getD 0) (-(gs[i]?.getD 0))) → enrg l fs k ≤ enrg l gs k ∧ ((∃ i, i < k ∧ max (fs[i]?.getD 0) (-(fs[i]?.getD 0)) < max (gs[i]?.getD 0) (-(gs[i]?.getD 0))) → enrg l fs k < enrg l gs k)
  | 0, _, _ => ⟨by simp [enrg], fun ⟨i, h, _⟩ => by omega⟩
  | k + 1, hs, h => by
    have ih := enrg_mono k (fun i hi => hs i (by omega)) (fun i hi => h i (by omega))
    have hk := cube_le (hs k (by omega)) (h k (by omega))
    rw [enrg_succ, enrg_succ]
    refine ⟨by omega, fun ⟨i, hi, hx⟩ => ?_⟩
    by_cases e : i = k
    · subst e
      have := cube_lt (hs i (by omega)) hx
      omega
    · have := ih.2 ⟨i, by omega, hx⟩
      omega

/-- A list with a 0 put in at a place. -/
def baseF (i : Nat) (L : List Int) : List Int := L.take i ++ [0] ++ L.drop i
theorem baseF_len {i : Nat} {L : List Int} : (baseF i L).length = L.length + 1 := by
  unfold baseF
  simp only [List.length_append, List.length_take, List.length_drop, List.length_singleton]
  omega
theorem baseF_mem {i : Nat} {L : List Int} {y : Int} (h : y ∈ baseF i L) : y = 0 ∨ y ∈ L := by
  unfold baseF at h
  simp only [List.mem_append, List.mem_singleton] at h
  rcases h with (h | h) | h
  · exact .inr (List.mem_of_mem_take h)
  · exact .inl h
  · exact .inr (List.mem_of_mem_drop h)
theorem baseF_at {i : Nat} {L : List Int} (h : i ≤ L.length) : (baseF i L)[i]?.getD 0 = 0 := by
  unfold baseF
  rw [List.getElem?_append_left (by simp; omega), List.getElem?_append_right (by simp; omega)]
  simp [Nat.min_eq_left h]
theorem baseF_up {i : Nat} {L : List Int} (h : i ≤ L.length) {k : Nat} (hk : k < L.length) : (baseF i L)[up i k]?.getD 0 = L[k]?.getD 0 := by
  unfold baseF up
  split
  · rename_i h1
    rw [List.append_assoc, List.getElem?_append_left (by simp; omega), List.getElem?_take_of_lt h1]
  · rename_i h1
    rw [List.getElem?_append_right (by simp; omega), List.getElem?_drop]
    congr 2
    simp
    omega

theorem dsum_le {D ds : List Int} (h : ∀ x ∈ ds, 0 ≤ x ∧ x ≤ 1000) : ∀ k, k ≤ ds.length → dsum D ds k ≤ (ds.take k).sum
  | 0, _ => by simp [dsum]
  | k + 1, hk => by
    have ih := dsum_le (D := D) h k (by omega)
    have hx := h _ (getD_mem ds k (by omega))
    rw [sum_take_succ ds k (by omega)]
    by_cases hp : D[k + 1]?.getD 0 < 0
    · rw [dsum_yes hp]; omega
    · rw [dsum_no hp]; omega
theorem tflow_in {M : Nat} {l : List Pip} {s : Int} {ds : List Int} (h : ∀ x ∈ ds, 0 ≤ x ∧ x ≤ 1000) (hm : ds.length = M) (i : Nat) : -ds.sum ≤ tflow M l s ds i ∧ tflow M l s ds i ≤ ds.sum := by
  have a := dsum_le (D := distL M l (pp l i).1 s) h M (by omega)
  have b := dsum_fit (D := distL M l (pp l i).1 s) h M (by omega)
  rw [List.take_of_length_le (by omega)] at a
  unfold tflow
  split <;> omega
theorem tflows_in {M : Nat} {l : List Pip} {s : Int} {ds : List Int} (h : ∀ x ∈ ds, 0 ≤ x ∧ x ≤ 1000) (hm : ds.length = M) {k : Nat} {y : Int} (hy : y ∈ tflows M l s ds k) : -ds.sum ≤ y ∧ y ≤ ds.sum := by
  unfold tflows at hy
  obtain ⟨i, -, rfl⟩ := List.mem_map.1 hy
  exact tflow_in h hm i
theorem nonneg_sum {ds : List Int} (h : ∀ x ∈ ds, 0 ≤ x ∧ x ≤ 1000) : 0 ≤ ds.sum := by
  have a := dsum_le (D := []) h ds.length (Nat.le_refl _)
  have b := dsum_fit (D := []) h ds.length (Nat.le_refl _)
  rw [List.take_of_length_le (Nat.le_refl _)] at a
  omega

/-- The flows of a ring before the loop is turned. -/
noncomputable def ringBase (M : Nat) (l : List Pip) (s : Int) (ds : List Int) : List Int := baseF (firstL l) (tflows M (l.eraseIdx (firstL l)) s ds (l.length - 1))
theorem ringBase_len {M : Nat} {l : List Pip} {s : Int} {ds : List Int} (h : 0 < l.length) : (ringBase M l s ds).length = l.length := by
  unfold ringBase
  rw [baseF_len, tflows_len]
  omega
theorem ringBase_in {M : Nat} {l : List Pip} {s : Int} {ds : List Int} (h : ∀ x ∈ ds, 0 ≤ x ∧ x ≤ 1000) (hm : ds.length = M) {y : Int} (hy : y ∈ ringBase M l s ds) : -ds.sum ≤ y ∧ y ≤ ds.sum := by
  have := nonneg_sum h
  rcases baseF_mem hy with rfl | hy
  · omega
  · exact tflows_in h hm hy
/-- The energy with the loop turned. -/
noncomputable def ringE (M : Nat) (l : List Pip) (s : Int) (ds : List Int) (x : Int) : Int := enrg l (turnF (loopS l) (ringBase M l s ds) x l.length) l.length

theorem turn_step {S fs : List Int} {n i : Nat} {T y : Int} (hn : fs.length = n) (hi : i < n) (hs : -1 ≤ S[i]?.getD 0 ∧ S[i]?.getD 0 ≤ 1) (hf : -T ≤ fs[i]?.getD 0 ∧ fs[i]?.getD 0 ≤ T) :
    (y < -T → max ((turnF S fs (y + 1) n)[i]?.getD 0) (-((turnF S fs (y + 1) n)[i]?.getD 0)) ≤ max ((turnF S fs y n)[i]?.getD 0) (-((turnF S fs y n)[i]?.getD 0)) ∧ (¬ S[i]?.getD 0 = 0 → max ((turnF S fs (y + 1) n)[i]?.getD 0) (-((turnF S fs (y + 1) n)[i]?.getD 0)) < max ((turnF S fs y n)[i]?.getD 0) (-((turnF S fs y n)[i]?.getD 0)))) ∧
    (T ≤ y → max ((turnF S fs y n)[i]?.getD 0) (-((turnF S fs y n)[i]?.getD 0)) ≤ max ((turnF S fs (y + 1) n)[i]?.getD 0) (-((turnF S fs (y + 1) n)[i]?.getD 0))) := by
  rw [turnF_get S fs (y + 1) n i hi (by omega), turnF_get S fs y n i hi (by omega)]
  generalize fs[i]?.getD 0 = f at *
  generalize S[i]?.getD 0 = t at *
  have h3 : t = -1 ∨ t = 0 ∨ t = 1 := by omega
  rcases h3 with rfl | rfl | rfl
  · refine ⟨fun h => ⟨by omega, fun _ => by omega⟩, fun h => by omega⟩
  · refine ⟨fun h => ⟨by omega, fun h => absurd rfl h⟩, fun h => by omega⟩
  · refine ⟨fun h => ⟨by omega, fun _ => by omega⟩, fun h => by omega⟩

theorem turn_in {M : Nat} {l : List Pip} {ds : List Int} {s x : Int} (hr : 0 < l.length) (h : ∀ x ∈ ds, 0 ≤ x ∧ x ≤ 1000) (hm : ds.length = M) (ht : ds.sum ≤ 200) (hx : -401 ≤ x ∧ x ≤ 401) : ∀ y ∈ turnF (loopS l) (ringBase M l s ds) x l.length, -601 ≤ y ∧ y ≤ 601 := by
  intro y hy
  obtain ⟨i, hi, rfl⟩ := List.mem_iff_getElem.1 hy
  have hl : (ringBase M l s ds).length = l.length := ringBase_len hr
  rw [turnF_len, hl] at hi
  have e := turnF_get (loopS l) (ringBase M l s ds) x l.length i hi (by omega)
  rw [List.getElem?_eq_getElem (by rw [turnF_len]; omega), Option.getD_some] at e
  rw [e]
  have a := ringBase_in (s := s) (l := l) h hm (getD_mem (ringBase M l s ds) i (by omega))
  have b := sign_mul (A := 401) (loopS_fit l hi) hx
  omega

theorem ringE_falls {M : Nat} {l : List Pip} {s : Int} {ds : List Int} (hg : goodNet M l = true) (hr : ringB M l = true) (h : ∀ x ∈ ds, 0 ≤ x ∧ x ≤ 1000) (hm : ds.length = M) : (∀ y, y < -ds.sum → ringE M l s ds (y + 1) < ringE M l s ds y) ∧ (∀ y, ds.sum ≤ y → ringE M l s ds y ≤ ringE M l s ds (y + 1)) := by
  obtain ⟨h1, h2, h3⟩ := firstL_ok (ring_on hg hr)
  have hl : (ringBase M l s ds).length = l.length := ringBase_len (by omega)
  have hst := fun (y : Int) (i : Nat) (hi : i < l.length) => turn_step (S := loopS l) (T := ds.sum) (y := y) hl hi (loopS_fit l hi) (ringBase_in h hm (getD_mem _ i (by omega)))
  have hsz : ∀ i, i < l.length → 1 ≤ (pp l i).2.2.2 := fun i hi => (goodNet_pipe hg hi).2.2.2.2.1
  refine ⟨fun y hy => ?_, fun y hy => ?_⟩
  · refine (enrg_mono l.length hsz (fun i hi => ((hst y i hi).1 hy).1)).2 ⟨firstL l, h1, ((hst y _ h1).1 hy).2 ?_⟩
    intro e
    rw [loopS_on hg hr h1, h2] at e
    cases e
  · exact (enrg_mono l.length hsz (fun i hi => (hst y i hi).2 hy)).1
/-- In the wide range the first least turn is the one in the narrow range. -/
theorem ring_best {M : Nat} {l : List Pip} {s : Int} {ds : List Int} (hg : goodNet M l = true) (hr : ringB M l = true) (h : ∀ x ∈ ds, 0 ≤ x ∧ x ≤ 1000) (hm : ds.length = M) (ht : ds.sum ≤ 200) : bestT (ringE M l s ds) (-400) 800 = bestT (ringE M l s ds) (-ds.sum) (2 * ds.sum).toNat := by
  have h0 := nonneg_sum h
  obtain ⟨f1, f2⟩ := ringE_falls (s := s) hg hr h hm
  have a := bestT_is (ringE M l s ds) (-400) 800
  have b := bestT_is (ringE M l s ds) (-ds.sum) (2 * ds.sum).toNat
  rw [show -ds.sum + ((2 * ds.sum).toNat : Int) = ds.sum by omega] at b
  rw [show (-400 : Int) + ((800 : Nat) : Int) = 400 by omega] at a
  exact a.unique (b.wide h0 (by omega) (by omega) (fun y _ hy => f1 y hy) (fun y hy _ => f2 y hy))

/-- The conditions of RingFlows, and what it returns. -/
noncomputable def canRing (N : Int) (l : List Pip) (s : Int) (ds : List Int) : Bool := (goodNet N l && ringB N l) && inR s 1 N && goodDem N ds && decide (ds.sum ≤ 200)
noncomputable def ringX (M : Nat) (l : List Pip) (s : Int) (ds : List Int) : Int := bestT (ringE M l s ds) (-ds.sum) (2 * ds.sum).toNat
noncomputable def ringFs (M : Nat) (l : List Pip) (s : Int) (ds : List Int) : List Int := turnF (loopS l) (ringBase M l s ds) (ringX M l s ds) l.length
noncomputable def ringsR (N : Int) (l : List Pip) (s : Int) (ds : List Int) : List Int × Bool := if canRing N l s ds = true then (ringFs N.toNat l s ds, true) else ([], false)
theorem canRing_iff {N : Int} {l : List Pip} {s : Int} {ds : List Int} (h : canRing N l s ds = true) : goodNet N l = true ∧ ringB N l = true ∧ (1 ≤ s ∧ s ≤ N) ∧ ((ds.length : Int) = N ∧ ∀ x ∈ ds, 0 ≤ x ∧ x ≤ 1000) ∧ ds.sum ≤ 200 := by
  unfold canRing at h
  simp only [Bool.and_eq_true, decide_eq_true_eq] at h
  exact ⟨h.1.1.1.1, h.1.1.1.2, inR_iff.1 h.1.1.2, goodDem_iff.1 h.1.2, h.2⟩
theorem ringsR_no {N : Int} {l : List Pip} {s : Int} {ds : List Int} (h : (goodNet N l = true ∧ ringB N l = true ∧ inR s 1 N = true ∧ goodDem N ds = true ∧ ds.sum ≤ 200) → False) : ringsR N l s ds = ([], false) := by
  unfold ringsR
  rw [if_neg]
  intro hc
  unfold canRing at hc
  simp only [Bool.and_eq_true, decide_eq_true_eq] at hc
  exact h ⟨hc.1.1.1.1, hc.1.1.1.2, hc.1.1.2, hc.1.2, hc.2⟩
theorem ringsR_len {N : Int} {l : List Pip} {s : Int} {ds R : List Int} {b : Bool} (h : ringsR N l s ds = (R, b)) : R.length ≤ 1000 := by
  unfold ringsR at h
  split at h
  · rename_i h1
    cases h
    have hg := canRing_iff h1
    have h2 := (goodNet_get hg.1).2.1
    have h3 := (goodNet_get hg.1).1
    have hl : l.length = N.toNat := by
      have e : (N.toNat : Int) = N := by omega
      have := ((ringB_iff (M := N.toNat) (by rw [e]; exact hg.1)).1 (by rw [e]; exact hg.2.1)).1
      exact this
    unfold ringFs
    rw [turnF_len, ringBase_len (by omega)]
    omega
  · cases h; simp

end Go.Proofs.Ytikjighlnpdgiaa

/-
  Flows turned around a loop, plain: twice, and back.
-/
set_option linter.unusedVariables false
set_option linter.unusedSimpArgs false
namespace Go.Proofs.Ytikjighlnpdgiaa
open Go.RowKit

theorem ext_getD {a b : List Int} (h : a.length = b.length) (hx : ∀ i, i < a.length → a[i]?.getD 0 = b[i]?.getD 0) : a = b := by
  apply List.ext_getElem h
  intro i h1 h2
  have := hx i h1
  rw [List.getElem?_eq_getElem h1, List.getElem?_eq_getElem h2] at this
  exact this
theorem turnF_add {S fs : List Int} {x y : Int} {n : Nat} (hn : fs.length = n) : turnF S (turnF S fs x n) y n = turnF S fs (x + y) n := by
  apply ext_getD (by rw [turnF_len, turnF_len, turnF_len])
  intro i hi
  rw [turnF_len, turnF_len] at hi
  rw [turnF_get _ _ _ n i (by omega) (by rw [turnF_len]; omega), turnF_get _ _ _ n i (by omega) (by omega), turnF_get _ _ _ n i (by omega) (by omega), Int.mul_add]
  omega
theorem turnF_zero {S fs : List Int} {n : Nat} (hn : fs.length = n) : turnF S fs 0 n = fs := by
  apply ext_getD (by rw [turnF_len])
  intro i hi
  rw [turnF_len] at hi
  rw [turnF_get _ _ _ n i (by omega) (by omega)]
  omega
/-- What TurnFlows returns, turned back. -/
theorem turnR_back {N : Int} {l : List Pip} {fs R : List Int} {x : Int} (h : turnR N l fs x = (R, true)) : turnR N l R (-x) = (fs, true) ∧ (-8000 ≤ x ∧ x ≤ 8000) := by
  unfold turnR at h
  split at h
  · rename_i h1
    obtain ⟨a, b, c, d⟩ := h1
    cases h
    have hl := (goodFl_iff.1 b).1
    have hx := inR_iff.1 c
    have e : turnF (loopS l) (turnF (loopS l) fs x l.length) (-x) l.length = fs := by
      rw [turnF_add hl, Int.add_right_neg, turnF_zero hl]
    refine ⟨?_, hx⟩
    unfold turnR
    rw [if_pos ⟨a, d, inR_iff.2 ⟨by omega, by omega⟩, by rw [e]; exact b⟩, e]
  · cases h

end Go.Proofs.Ytikjighlnpdgiaa

/-
  Networks: whether a node is there.
-/
set_option linter.unusedVariables false
set_option linter.unusedSimpArgs false
namespace Go.Proofs.Ytikjighlnpdgiaa
open Go.RowKit

theorem i_hasNode (N x : Int) (a : Option Addr) (n c : Nat) (l : List Pip) (w : World) (h : QAt w a n l) (hn : n ≤ 1048576) :
    Calls Try.prog 94 #[.agg #[.int .i64 N, .slice a n c], .int .i64 x] w fun e w' => e = .returned (.bool (goodNet N l && inR x 1 N)) ∧ Below w.heap.size w w' := by
  have H := hid h
  clear h
  cases h1 : goodNet N l
  · have HG := hid h1
    clear h1
    go_enter Try.func94, Try.ntmps94
    go_wp2_with fail
    refine (i_IsValidNetwork N _ _ _ l _ (H.out.below (by go_grown)) (by omega)).mono ?_
    rintro e w1 ⟨rfl, hb1⟩
    rw [HG.out]
    obtain ⟨hc_w1, hf_w1⟩ := bcell hb1
    have hz_w1_0 : w.heap.size < w1.heap.size := by have := hb1.size; simp only [World.size_alloc] at this; omega
    have HB1 := hid (bstep (by go_grown) hb1 : Below w.heap.size w w1)
    go_wp2
    go_ret
    exact ⟨rfl, HB1.out⟩
  · have HG := hid h1
    clear h1
    go_enter Try.func94, Try.ntmps94
    go_wp2_with fail
    refine (i_IsValidNetwork N _ _ _ l _ (H.out.below (by go_grown)) (by omega)).mono ?_
    rintro e w1 ⟨rfl, hb1⟩
    rw [HG.out]
    obtain ⟨hc_w1, hf_w1⟩ := bcell hb1
    have hz_w1_0 : w.heap.size < w1.heap.size := by have := hb1.size; simp only [World.size_alloc] at this; omega
    have HB1 := hid (bstep (by go_grown) hb1 : Below w.heap.size w w1)
    go_wp2_with fail
    refine (i_has N x _ _ _ _).mono ?_
    rintro e w2 ⟨rfl, hb2⟩
    go_wp2
    go_ret
    exact ⟨rfl, bstep HB1.out hb2⟩
theorem s_l2Node (N x : Int) (a : Option Addr) (n c : Nat) (l : List Pip) (w : World) (h : QAt w a n l) (hn : n ≤ 1048576) :
    Calls Try.prog 30 #[.agg #[.int .i64 N, .slice a n c], .int .i64 x] w fun e w' => e = .returned (.bool (goodNet N l && inR x 1 N)) ∧ Below w.heap.size w w' := by
  have H := hid h
  clear h
  cases h1 : goodNet N l
  · have HG := hid h1
    clear h1
    go_enter Try.func30, Try.ntmps30
    go_wp2_with fail
    refine (s_l2Good N _ _ _ l _ (H.out.below (by go_grown)) (by omega)).mono ?_
    rintro e w1 ⟨rfl, hb1⟩
    rw [HG.out]
    obtain ⟨hc_w1, hf_w1⟩ := bcell hb1
    have hz_w1_0 : w.heap.size < w1.heap.size := by have := hb1.size; simp only [World.size_alloc] at this; omega
    have HB1 := hid (bstep (by go_grown) hb1 : Below w.heap.size w w1)
    go_wp2
    go_ret
    exact ⟨rfl, HB1.out⟩
  · have HG := hid h1
    clear h1
    go_enter Try.func30, Try.ntmps30
    go_wp2_with fail
    refine (s_l2Good N _ _ _ l _ (H.out.below (by go_grown)) (by omega)).mono ?_
    rintro e w1 ⟨rfl, hb1⟩
    rw [HG.out]
    obtain ⟨hc_w1, hf_w1⟩ := bcell hb1
    have hz_w1_0 : w.heap.size < w1.heap.size := by have := hb1.size; simp only [World.size_alloc] at this; omega
    have HB1 := hid (bstep (by go_grown) hb1 : Below w.heap.size w w1)
    go_wp2_with fail
    refine (s_l1In _ _ _ _).mono ?_
    rintro e _ ⟨rfl, rfl⟩
    go_wp2
    go_ret
    exact ⟨rfl, HB1.out⟩

end Go.Proofs.Ytikjighlnpdgiaa

/-
  Networks: what is asked of a source, demands and flows; the imbalance at a node.
-/
set_option linter.unusedVariables false
set_option linter.unusedSimpArgs false
namespace Go.Proofs.Ytikjighlnpdgiaa
open Go.RowKit


/-- A network, a source, demands and flows are valid. -/
def asks (N : Int) (l : List Pip) (s : Int) (ds fs : List Int) : Bool := goodNet N l && inR s 1 N && goodDem N ds && goodFl l.length fs
theorem asks_iff {N : Int} {l : List Pip} {s : Int} {ds fs : List Int} (h : asks N l s ds fs = true) : goodNet N l = true ∧ (1 ≤ s ∧ s ≤ N) ∧ goodDem N ds = true ∧ goodFl l.length fs = true := by
  simp only [asks, Bool.and_eq_true] at h
  exact ⟨h.1.1.1, inR_iff.1 h.1.1.2, h.1.2, h.2⟩

theorem i_canFlow (N s : Int) (a p q : Option Addr) (n c m d r e0 : Nat) (l : List Pip) (ds fs : List Int) (w : World) (h : QAt w a n l) (h' : IntsAt w p m ds) (h'' : IntsAt w q r fs) (hn : n ≤ 1048576) (hm : m ≤ 1048576) (hr : r ≤ 1048576) :
    Calls Try.prog 57 #[.agg #[.int .i64 N, .slice a n c], .int .i64 s, .slice p m d, .slice q r e0] w fun e w' => e = .returned (.bool (asks N l s ds fs)) ∧ Below w.heap.size w w' := by
  have hl := h.1
  have H := hid h
  have H' := hid h'
  have H'' := hid h''
  clear h h' h''
  cases h1 : (goodNet N l && inR s 1 N)
  · have E := hid (show false = asks N l s ds fs by simp only [asks, h1, Bool.false_and])
    have H1 := hid h1
    clear h1 hl
    go_enter Try.func57, Try.ntmps57
    go_wp2_with fail
    refine (i_hasNode N s _ _ _ l _ (H.out.below (by go_grown)) (by omega)).mono ?_
    rintro e w1 ⟨rfl, hb1⟩
    rw [H1.out]
    obtain ⟨hc_w1, hf_w1⟩ := bcell hb1
    have hz_w1_0 : w.heap.size < w1.heap.size := by have := hb1.size; simp only [World.size_alloc] at this; omega
    have HB1 := hid (bstep (by go_grown) hb1 : Below w.heap.size w w1)
    go_wp2
    go_ret
    exact ⟨ret_bool E.out, HB1.out⟩
  · cases h2 : goodDem N ds
    · have E := hid (show false = asks N l s ds fs by simp only [asks, h1, h2, Bool.and_false, Bool.false_and])
      have H1 := hid h1
      have H2 := hid h2
      clear h1 h2 hl
      go_enter Try.func57, Try.ntmps57
      go_wp2_with fail
      refine (i_hasNode N s _ _ _ l _ (H.out.below (by go_grown)) (by omega)).mono ?_
      rintro e w1 ⟨rfl, hb1⟩
      rw [H1.out]
      obtain ⟨hc_w1, hf_w1⟩ := bcell hb1
      have hz_w1_0 : w.heap.size < w1.heap.size := by have := hb1.size; simp only [World.size_alloc] at this; omega
      have HB1 := hid (bstep (by go_grown) hb1 : Below w.heap.size w w1)
      go_wp2_with fail
      refine (i_areDemands N _ _ n _ _ _ ds _ (H'.out.below HB1.out) hm).mono ?_
      rintro e w2 ⟨rfl, hb2⟩
      rw [H2.out]
      go_wp2
      go_ret
      exact ⟨ret_bool E.out, bstep HB1.out hb2⟩
    · have E := hid (show goodFl n fs = asks N l s ds fs by simp only [asks, h1, h2, hl, Bool.true_and])
      have H1 := hid h1
      have H2 := hid h2
      clear h1 h2 hl
      go_enter Try.func57, Try.ntmps57
      go_wp2_with fail
      refine (i_hasNode N s _ _ _ l _ (H.out.below (by go_grown)) (by omega)).mono ?_
      rintro e w1 ⟨rfl, hb1⟩
      rw [H1.out]
      obtain ⟨hc_w1, hf_w1⟩ := bcell hb1
      have hz_w1_0 : w.heap.size < w1.heap.size := by have := hb1.size; simp only [World.size_alloc] at this; omega
      have HB1 := hid (bstep (by go_grown) hb1 : Below w.heap.size w w1)
      go_wp2_with fail
      refine (i_areDemands N _ _ n _ _ _ ds _ (H'.out.below HB1.out) hm).mono ?_
      rintro e w2 ⟨rfl, hb2⟩
      rw [H2.out]
      obtain ⟨hc_w2, hf_w2⟩ := bcell hb2
      have hz_w2_0 : w.heap.size < w2.heap.size := by have := hb2.size; omega
      have HB2 := hid (bstep HB1.out hb2)
      go_wp2_with fail
      refine (i_areFlows N _ _ n _ _ _ fs _ (H''.out.below HB2.out) hr).mono ?_
      rintro e w3 ⟨rfl, hb3⟩
      go_wp2
      go_ret
      exact ⟨ret_bool E.out, bstep HB2.out hb3⟩

/-- What flows into a node through a pipe, and through the first ones. -/
def inflow (l : List Pip) (fs : List Int) (x : Int) (j : Nat) : Int := if x = (pp l j).2.2.1 then fs[j]?.getD 0 else if x = (pp l j).2.1 then -(fs[j]?.getD 0) else 0
def net (l : List Pip) (fs : List Int) (x : Int) (k : Nat) : Int := ((List.range k).map (inflow l fs x)).sum
theorem net_succ (l : List Pip) (fs : List Int) (x : Int) (k : Nat) : net l fs x (k + 1) = net l fs x k + inflow l fs x k := by simp [net, List.range_succ]
theorem inflow_fit {n : Nat} {l : List Pip} {fs : List Int} {x : Int} {k : Nat} (hf : goodFl n fs = true) (hk : k < n) : -8000 ≤ inflow l fs x k ∧ inflow l fs x k ≤ 8000 := by
  have := (goodFl_iff.1 hf).2 _ (getD_mem' (k := k) (by have := (goodFl_iff.1 hf).1; omega))
  unfold inflow
  split
  · exact this
  · split <;> omega
theorem net_fit {n : Nat} {l : List Pip} {fs : List Int} {x : Int} (hf : goodFl n fs = true) : ∀ k, k ≤ n → -(8000 * (k : Int)) ≤ net l fs x k ∧ net l fs x k ≤ 8000 * (k : Int)
  | 0, _ => by simp [net]
  | k + 1, hk => by
    have ih := net_fit (l := l) (x := x) hf k (by omega)
    have := inflow_fit (l := l) (x := x) hf (k := k) (by omega)
    rw [net_succ]
    push_cast
    omega
/-- What is there without the pipes. -/
def own (ds : List Int) (s x : Int) : Int := if x = s then -(ds[x.toNat - 1]?.getD 0) + ds.sum else -(ds[x.toNat - 1]?.getD 0)
def imb (l : List Pip) (ds fs : List Int) (s x : Int) : Int := own ds s x + net l fs x l.length

set_option maxRecDepth 100000 in
set_option maxHeartbeats 4000000 in
theorem i_imbalanceAt (N s x : Int) (a p q : Option Addr) (n c m d e0 : Nat) (l : List Pip) (ds fs : List Int) (w : World) (h : QAt w a n l) (h' : IntsAt w p m ds) (h'' : IntsAt w q n fs) (hg : goodNet N l = true) (hd : goodDem N ds = true) (hf : goodFl n fs = true) (hx : 1 ≤ x ∧ x ≤ N) :
    Calls Try.prog 58 #[.agg #[.int .i64 N, .slice a n c], .int .i64 s, .slice p m d, .slice q n e0, .int .i64 x] w fun e w' => e = .returned (.int .i64 (imb l ds fs s x)) ∧ Below w.heap.size w w' := by
  have hg2 := goodNet_get hg
  have hd2 := goodDem_iff.1 hd
  have hn : n ≤ 10 := by have := h.1; omega
  have hm : (m : Int) = N := by have := h'.1; omega
  have hm8 : m ≤ 8 := by omega
  have hsum := sum_fit (B := 1000) (by decide) hd2.2
  rw [h'.1] at hsum
  have hdx := hd2.2 _ (getD_mem' (k := x.toNat - 1) (by have := h'.1; omega))
  have HV := hid (show ∀ y ∈ ds, -1000000000000 ≤ y ∧ y ≤ 1000000000000 from fun y hy => by have := hd2.2 y hy; omega)
  obtain ⟨bp, op, rfl, hbp, hcp⟩ := h'.2 (x.toNat - 1) (by omega)
  have H := hid h
  have H' := hid h'
  have H'' := hid h''
  have HL := hid h.1
  have HG := hid hg
  have HF := hid hf
  have hx1 : 0 ≤ x - 1 := by omega
  have hx2 : x - 1 < (m : Int) := by omega
  have hcp0 := (bcell ((Below.refl w.heap.size w).alloc (Nat.le_refl _) (.cells #[.int .i64 N, .slice a n c] 31))).1 _ (op + (x.toNat - 1)) hbp
  clear hcp0
  clear h h' h'' hg hd hf hg2 hd2
  by_cases hxs : x = s
  · have HO := hid (show -(ds[x.toNat - 1]?.getD 0) + ds.sum = own ds s x by simp [own, hxs])
    have hxa : x ≤ s := by omega
    have hxb : s ≤ x := by omega
    clear hxs
    go_enter Try.func58, Try.ntmps58
    go_wp2_with fail
    refine (i_sumInts _ _ _ ds _ (H'.out.below (by go_grown)) (by omega) HV.out).mono ?_
    rintro e _ ⟨rfl, rfl⟩
    generalize hv0 : own ds s x = v0 at HO
    have hv1 : -1000 ≤ v0 ∧ v0 ≤ 8000 := by have := HO.out; omega
    have HV0 := hid hv0
    clear hv0
    go_wp2
    go_loopg [11, 30] n (fun g t i wr => ∃ k : Nat, k ≤ n ∧ g = n - k ∧ i = .int .i64 k ∧ t = .int .i64 (v0 + net l fs x k) ∧ Hid (Below w.heap.size w wr))
    case atStart => exact ⟨0, Nat.zero_le _, rfl, rfl, by rw [← HO.out]; simp [net], hid (by go_grown)⟩
    case round =>
      obtain ⟨k, hk, rfl, rfl, rfl, hB⟩ := hrel
      have hnf := net_fit (l := l) (x := x) HF.out k hk
      by_cases hlt : k < n
      · obtain ⟨b0, off0, rfl, hbw, x0, x1, x2, x3⟩ := QAt.get (H.out.below hB.out) k hlt
        obtain ⟨b1, off1, rfl, hbw1, hcell⟩ := (H''.out.below hB.out).2 k hlt
        have hfk := (goodFl_iff.1 HF.out).2 _ (getD_mem' (k := k) (by have := H''.out.1; omega))
        have hz1 : b1 < wr.heap.size + 1 := by omega
        by_cases e1 : x = (pp l k).2.2.1
        · have E := hid (show net l fs x k + fs[k]?.getD 0 = net l fs x (k + 1) by rw [net_succ]; unfold inflow; rw [if_pos e1])
          have ea : x ≤ (pp l k).2.2.1 := by omega
          have eb : (pp l k).2.2.1 ≤ x := by omega
          clear e1
          go_wp2
          go_roundg (n - (k + 1))
          case rel => exact ⟨k + 1, by omega, rfl, by go_num, by rw [← E.out, Int.add_assoc], hid (bstep hB.out (by go_grown))⟩
          case measure => omega
        · by_cases e2 : x = (pp l k).2.1
          · have E := hid (show net l fs x k - fs[k]?.getD 0 = net l fs x (k + 1) by rw [net_succ]; unfold inflow; rw [if_neg e1, if_pos e2]; omega)
            have ea : x ≤ (pp l k).2.1 := by omega
            have eb : (pp l k).2.1 ≤ x := by omega
            clear e2
            go_wp2
            go_roundg (n - (k + 1))
            case rel => exact ⟨k + 1, by omega, rfl, by go_num, by rw [← E.out]; congr 1; omega, hid (bstep hB.out (by go_grown))⟩
            case measure => omega
          · have E := hid (show net l fs x k = net l fs x (k + 1) by rw [net_succ]; unfold inflow; rw [if_neg e1, if_neg e2]; omega)
            go_wp2
            go_roundg (n - (k + 1))
            case rel => exact ⟨k + 1, by omega, rfl, by go_num, by rw [← E.out], hid (bstep hB.out (by go_grown))⟩
            case measure => omega
      · obtain rfl : k = n := by omega
        go_wp2
        go_ret
        refine ⟨ret_int ?_, hB.out⟩
        rw [imb, HV0.out, HL.out]
  · have HO := hid (show -(ds[x.toNat - 1]?.getD 0) = own ds s x by simp [own, hxs])
    go_enter Try.func58, Try.ntmps58
    generalize hv0 : own ds s x = v0 at HO
    have hv1 : -1000 ≤ v0 ∧ v0 ≤ 8000 := by have := HO.out; omega
    have HV0 := hid hv0
    clear hv0
    go_wp2
    go_loopg [11, 30] n (fun g t i wr => ∃ k : Nat, k ≤ n ∧ g = n - k ∧ i = .int .i64 k ∧ t = .int .i64 (v0 + net l fs x k) ∧ Hid (Below w.heap.size w wr))
    case atStart => exact ⟨0, Nat.zero_le _, rfl, rfl, by rw [← HO.out]; simp [net], hid (by go_grown)⟩
    case round =>
      obtain ⟨k, hk, rfl, rfl, rfl, hB⟩ := hrel
      have hnf := net_fit (l := l) (x := x) HF.out k hk
      by_cases hlt : k < n
      · obtain ⟨b0, off0, rfl, hbw, x0, x1, x2, x3⟩ := QAt.get (H.out.below hB.out) k hlt
        obtain ⟨b1, off1, rfl, hbw1, hcell⟩ := (H''.out.below hB.out).2 k hlt
        have hfk := (goodFl_iff.1 HF.out).2 _ (getD_mem' (k := k) (by have := H''.out.1; omega))
        have hz1 : b1 < wr.heap.size + 1 := by omega
        by_cases e1 : x = (pp l k).2.2.1
        · have E := hid (show net l fs x k + fs[k]?.getD 0 = net l fs x (k + 1) by rw [net_succ]; unfold inflow; rw [if_pos e1])
          have ea : x ≤ (pp l k).2.2.1 := by omega
          have eb : (pp l k).2.2.1 ≤ x := by omega
          clear e1
          go_wp2
          go_roundg (n - (k + 1))
          case rel => exact ⟨k + 1, by omega, rfl, by go_num, by rw [← E.out, Int.add_assoc], hid (bstep hB.out (by go_grown))⟩
          case measure => omega
        · by_cases e2 : x = (pp l k).2.1
          · have E := hid (show net l fs x k - fs[k]?.getD 0 = net l fs x (k + 1) by rw [net_succ]; unfold inflow; rw [if_neg e1, if_pos e2]; omega)
            have ea : x ≤ (pp l k).2.1 := by omega
            have eb : (pp l k).2.1 ≤ x := by omega
            clear e2
            go_wp2
            go_roundg (n - (k + 1))
            case rel => exact ⟨k + 1, by omega, rfl, by go_num, by rw [← E.out]; congr 1; omega, hid (bstep hB.out (by go_grown))⟩
            case measure => omega
          · have E := hid (show net l fs x k = net l fs x (k + 1) by rw [net_succ]; unfold inflow; rw [if_neg e1, if_neg e2]; omega)
            go_wp2
            go_roundg (n - (k + 1))
            case rel => exact ⟨k + 1, by omega, rfl, by go_num, by rw [← E.out], hid (bstep hB.out (by go_grown))⟩
            case measure => omega
      · obtain rfl : k = n := by omega
        go_wp2
        go_ret
        refine ⟨ret_int ?_, hB.out⟩
        rw [imb, HV0.out, HL.out]

end Go.Proofs.Ytikjighlnpdgiaa

/-
  Networks: IsBalanced.
-/
set_option linter.unusedVariables false
set_option linter.unusedSimpArgs false
namespace Go.Proofs.Ytikjighlnpdgiaa
open Go.RowKit

/-- No node has an imbalance. -/
def bal (l : List Pip) (ds fs : List Int) (s : Int) (M : Nat) : Bool := (List.range M).all fun k => decide (imb l ds fs s ((k : Int) + 1) = 0)
theorem bal_yes {l : List Pip} {ds fs : List Int} {s : Int} {M : Nat} (h : ∀ k, k < M → imb l ds fs s ((k : Int) + 1) = 0) : bal l ds fs s M = true := by
  simp only [bal, List.all_eq_true, List.mem_range, decide_eq_true_eq]
  exact h
theorem bal_no {l : List Pip} {ds fs : List Int} {s : Int} {M k : Nat} (hk : k < M) (h : ¬ imb l ds fs s ((k : Int) + 1) = 0) : bal l ds fs s M = false := by
  cases e : bal l ds fs s M
  · rfl
  · simp only [bal, List.all_eq_true, List.mem_range, decide_eq_true_eq] at e
    exact absurd (e k hk) h
/-- What IsBalanced returns. -/
def balR (N : Int) (l : List Pip) (s : Int) (ds fs : List Int) : Bool × Bool := if asks N l s ds fs = true then (bal l ds fs s N.toNat, true) else (false, false)


set_option maxRecDepth 100000 in
set_option maxHeartbeats 2000000 in
theorem i_IsBalanced (N s : Int) (a p q : Option Addr) (n c m d r e0 : Nat) (l : List Pip) (ds fs : List Int) (w : World) (h : QAt w a n l) (h' : IntsAt w p m ds) (h'' : IntsAt w q r fs) (hn : n ≤ 1048576) (hm : m ≤ 1048576) (hr : r ≤ 1048576) (y : Bool) (z : Bool) (hR : balR N l s ds fs = (y, z)) :
    Calls Try.prog 18 #[.agg #[.int .i64 N, .slice a n c], .int .i64 s, .slice p m d, .slice q r e0] w fun e w' => e = .returned (.tuple #[.bool y, .bool z]) ∧ Below w.heap.size w w' := by
  have hl := h.1
  have H := hid h
  have H' := hid h'
  have H'' := hid h''
  clear h h' h''
  cases h1 : asks N l s ds fs
  · have H1 := hid h1
    have e1 : balR N l s ds fs = (false, false) := by simp [balR, h1]
    rw [e1] at hR
    cases hR
    clear h1 hl e1
    go_enter Try.func18, Try.ntmps18
    go_wp2_with fail
    refine (i_canFlow N s _ _ _ _ _ _ _ _ _ l ds fs _ (H.out.below (by go_grown)) (H'.out.below (by go_grown)) (H''.out.below (by go_grown)) hn hm (by omega)).mono ?_
    rintro e w1 ⟨rfl, hb1⟩
    rw [H1.out]
    obtain ⟨hc_w1, hf_w1⟩ := bcell hb1
    have hz_w1_0 : w.heap.size < w1.heap.size := by have := hb1.size; simp only [World.size_alloc] at this; omega
    have HB1 := hid (bstep (by go_grown) hb1 : Below w.heap.size w w1)
    go_wp2
    go_ret2
    exact ⟨rfl, HB1.out⟩
  · have H1 := hid h1
    obtain ⟨g1, g2, g3, g4⟩ := asks_iff h1
    rw [hl] at g4
    have hrn : r = n := by have := (goodFl_iff.1 g4).1; have := H''.out.1; omega
    subst hrn
    have hN := (goodNet_get g1).1
    obtain ⟨M, rfl⟩ : ∃ M : Nat, N = M := ⟨N.toNat, by omega⟩
    have G1 := hid g1
    have G3 := hid g3
    have G4 := hid g4
    have e1 : balR M l s ds fs = (bal l ds fs s M, true) := by simp [balR, h1]
    rw [e1] at hR
    cases hR
    have hM : M ≤ 8 := by omega
    clear h1 hl e1 g1 g2 g3 g4 hN
    go_enter Try.func18, Try.ntmps18
    go_wp2_with fail
    refine (i_canFlow M s _ _ _ _ _ _ _ _ _ l ds fs _ (H.out.below (by go_grown)) (H'.out.below (by go_grown)) (H''.out.below (by go_grown)) hn hm (by omega)).mono ?_
    rintro e w1 ⟨rfl, hb1⟩
    rw [H1.out]
    have n0 : w1.cell? ⟨w.heap.size, 0, none⟩ = some (.int .i64 M) := by rw [(bcell hb1).1 _ _ (by simp)]; exact cell_of_row _ _ 0 _ _ (0, 0) (heap_alloc_new _ _)
    have n1 := ((bcell hb1).1 w.heap.size 1 (by simp)).trans (cell_of_row _ _ 1 _ _ (0, 0) (heap_alloc_new _ _))
    simp only [List.getElem?_toArray, List.getElem?_cons_succ, List.getElem?_cons_zero] at n1
    have HX := hid (show Below w.heap.size w w1 ∧ w1.cell? ⟨w.heap.size, 0, none⟩ = some (.int .i64 M) ∧ w1.cell? ⟨w.heap.size, 1, none⟩ = some (.slice a r c) from ⟨bstep (by go_grown) hb1, n0, n1⟩)
    clear hb1
    go_wp2
    clear n0 n1
    go_loopg [10] M (fun g i wr => ∃ k : Nat, k ≤ M ∧ g = M - k ∧ i = .int .i64 ((k : Int) + 1) ∧ Hid (Below w.heap.size w wr ∧ wr.cell? ⟨w.heap.size, 0, none⟩ = some (.int .i64 M) ∧ wr.cell? ⟨w.heap.size, 1, none⟩ = some (.slice a r c)) ∧ Hid (∀ j, j < k → imb l ds fs s ((j : Int) + 1) = 0))
    case atStart => exact ⟨0, Nat.zero_le _, rfl, rfl, HX, hid (fun j hj => absurd hj (by omega))⟩
    case round =>
      obtain ⟨k, hk, rfl, rfl, hB, hh⟩ := hrel
      obtain ⟨-, n0, n1⟩ := hB.out
      have hz0 : w.heap.size < wr.heap.size := World.block_lt_of_cell? wr _ n0
      by_cases hlt : k < M
      · go_wp2_with fail
        refine (i_imbalanceAt M s ((k : Int) + 1) _ _ _ _ _ _ _ _ l ds fs _ (H.out.below hB.out.1) (H'.out.below hB.out.1) (H''.out.below hB.out.1) G1.out G3.out G4.out (by omega)).mono ?_
        rintro e w2 ⟨rfl, hb2⟩
        have HC := hid (show Below w.heap.size w w2 ∧ w2.cell? ⟨w.heap.size, 0, none⟩ = some (.int .i64 M) ∧ w2.cell? ⟨w.heap.size, 1, none⟩ = _ from ⟨bstep hB.out.1 hb2, ((bcell hb2).1 _ _ hz0).trans n0, ((bcell hb2).1 _ _ hz0).trans n1⟩)
        clear n0 n1 hb2 hz0
        by_cases hi : imb l ds fs s ((k : Int) + 1) = 0
        · have hi' : (imb l ds fs s ((k : Int) + 1) != 0) = false := by simp [hi]
          have HI := hid hi
          clear hi
          go_wp2
          go_roundg (M - (k + 1))
          case rel =>
            refine ⟨k + 1, by omega, rfl, by go_num, HC, hid (fun j hj => ?_)⟩
            by_cases e : j = k
            · subst e; exact HI.out
            · exact hh.out j (by omega)
          case measure => omega
        · have hi' : (imb l ds fs s ((k : Int) + 1) != 0) = true := by simp [hi]
          have E := hid (show bal l ds fs s M = false from bal_no hlt hi)
          clear hi
          go_wp2
          go_ret2
          rw [E.out]
          exact ⟨rfl, HC.out.1⟩
      · obtain rfl : k = M := by omega
        have E := hid (show bal l ds fs s k = true from bal_yes hh.out)
        go_wp2
        go_ret2
        rw [E.out]
        exact ⟨rfl, hB.out.1⟩

end Go.Proofs.Ytikjighlnpdgiaa

/-
  With the flows of a tree the water balances; the imbalances of all nodes together are nothing (plain).
-/
set_option linter.unusedVariables false
set_option linter.unusedSimpArgs false
namespace Go.Proofs.Ytikjighlnpdgiaa
open Go.RowKit

/-- A sum of the first values. -/
def sm (f : Nat → Int) : Nat → Int
  | 0 => 0
  | n + 1 => sm f n + f n
theorem sm_ext {f g : Nat → Int} : ∀ n, (∀ k, k < n → f k = g k) → sm f n = sm g n
  | 0, _ => rfl
  | n + 1, h => by simp only [sm]; rw [sm_ext n (fun k hk => h k (by omega)), h n (by omega)]
theorem sm_add (f g : Nat → Int) : ∀ n, sm (fun k => f k + g k) n = sm f n + sm g n
  | 0 => rfl
  | n + 1 => by simp only [sm]; rw [sm_add f g n]; omega
theorem sm_mul (f : Nat → Int) (c : Int) : ∀ n, sm (fun k => f k * c) n = sm f n * c
  | 0 => by simp [sm]
  | n + 1 => by simp only [sm]; rw [sm_mul f c n, Int.add_mul]
theorem sm_zero {f : Nat → Int} : ∀ n, (∀ k, k < n → f k = 0) → sm f n = 0
  | 0, _ => rfl
  | n + 1, h => by simp only [sm]; rw [sm_zero n (fun k hk => h k (by omega)), h n (by omega)]; rfl
theorem sm_one {f g : Nat → Int} {j : Nat} : ∀ n, j < n → (∀ k, k < n → k ≠ j → f k = g k) → sm f n = sm g n + (f j - g j)
  | 0, h, _ => absurd h (by omega)
  | n + 1, hj, h => by
    simp only [sm]
    by_cases e : j = n
    · subst e
      rw [sm_ext j (fun k hk => h k (by omega) (by omega))]
      omega
    · rw [sm_one n (by omega) (fun k hk hne => h k (by omega) hne), h n (by omega) (fun e2 => e e2.symm)]
      omega
theorem sm_list (f : Nat → Int) : ∀ n, ((List.range n).map f).sum = sm f n
  | 0 => rfl
  | n + 1 => by simp only [sm]; rw [← sm_list f n]; simp [List.range_succ]
theorem sm_swap (f : Nat → Nat → Int) (n : Nat) : ∀ m, sm (fun i => sm (f i) n) m = sm (fun k => sm (fun i => f i k) m) n
  | 0 => by simp only [sm]; exact (sm_zero n (fun _ _ => rfl)).symm
  | m + 1 => by simp only [sm]; rw [sm_swap f n m, ← sm_add]
/-- A node is cut off by a pipe. -/
noncomputable def cutK (l : List Pip) (s : Int) (k : Nat) (u : Int) : Int := if 0 ≤ far l (pp l k).1 s u then 0 else 1
noncomputable def dirK (l : List Pip) (s : Int) (k : Nat) : Int := if 0 ≤ far l (pp l k).1 s (pp l k).2.2.1 then -1 else 1
def cof (l : List Pip) (x : Int) (k : Nat) : Int := if x = (pp l k).2.2.1 then 1 else if x = (pp l k).2.1 then -1 else 0
theorem inflow_cof (l : List Pip) (fs : List Int) (x : Int) (k : Nat) : inflow l fs x k = cof l x k * fs[k]?.getD 0 := by
  unfold inflow cof
  split
  · omega
  · split <;> omega
theorem tree_under {N : Int} {l : List Pip} {s u : Int} {i : Nat} (hg : goodNet N l = true) (ht : treeB N l = true) (hs : 1 ≤ s ∧ s ≤ N) (hi : BackK l 0 s u i) : ∀ (d : Nat) (v : Int), 1 ≤ v → v ≤ N → far l 0 s v = d → (d : Int) < far l 0 s u → 0 ≤ far l (pp l i).1 s v := by
  intro d
  induction d with
  | zero =>
    intro v v1 v2 hv hlt
    have := (far_is (wo := 0) (s := s) hg).only v v1 v2 (by omega)
    subst this
    rw [far_self hg]
    omega
  | succ d ih =>
    intro v v1 v2 hv hlt
    obtain ⟨k, hk⟩ := tree_back hg ht hs v1 v2 (fun e => by subst e; rw [far_self hg] at hv; omega)
    have hne : k ≠ i := fun e => by
      subst e
      have := backK_inj hk hi
      subst this
      omega
    obtain ⟨hk1, -, x, ho, hx, hu⟩ := hk
    obtain ⟨⟨u1, u2⟩, -, -, -⟩ := okQ_ends hg hk1 ho hx
    have := ih x u1 u2 (by omega) (by omega)
    exact ((far_is (wo := (pp l i).1) (s := s) hg).step x v ⟨k, hk1, ids_ne hg hi.1 hk1 hne, ho, hx⟩ this).1
theorem cut_same {N : Int} {l : List Pip} {s u v : Int} {k : Nat} (hg : goodNet N l = true) (he : Edge l (pp l k).1 u v) : cutK l s k u = cutK l s k v := by
  have hd := far_is (wo := (pp l k).1) (s := s) hg
  unfold cutK
  by_cases h : 0 ≤ far l (pp l k).1 s u
  · rw [if_pos h, if_pos (hd.step u v he h).1]
  · rw [if_neg h, if_neg (fun h2 => h (hd.step v u (he.symm hg) h2).1)]
/-- One unit to a node: what it brings to each. -/
theorem unit_flow {N : Int} {l : List Pip} {s x : Int} (hg : goodNet N l = true) (ht : treeB N l = true) (hs : 1 ≤ s ∧ s ≤ N) : ∀ (d : Nat) (u : Int), 1 ≤ u → u ≤ N → far l 0 s u = d →
    sm (fun k => cof l x k * dirK l s k * cutK l s k u) l.length = (if u = x then 1 else 0) - (if x = s then 1 else 0) := by
  intro d
  induction d with
  | zero =>
    intro u u1 u2 hu
    have := (far_is (wo := 0) (s := s) hg).only u u1 u2 (by omega)
    subst this
    rw [sm_zero]
    · by_cases e : u = x
      · subst e; simp
      · rw [if_neg e, if_neg (fun e2 => e e2.symm)]; rfl
    · intro k hk
      have h0 : cutK l u k u = 0 := by unfold cutK; rw [far_self hg]; simp
      show cof l x k * dirK l u k * cutK l u k u = 0
      rw [h0, Int.mul_zero]
  | succ d ih =>
    intro u u1 u2 hu
    obtain ⟨j, hj⟩ := tree_back hg ht hs u1 u2 (fun e => by subst e; rw [far_self hg] at hu; omega)
    have hjj := hj
    obtain ⟨hj1, -, y, ho, hx, hy⟩ := hjj
    obtain ⟨⟨y1, y2⟩, -, hne, hoy⟩ := okQ_ends hg hj1 ho hx
    have hcy : 0 ≤ far l (pp l j).1 s y := tree_under hg ht hs hj d y y1 y2 (by omega) (by omega)
    have hb := tree_bridge hg ht hs hj1
    have hpe := (goodNet_pipe hg hj1).2.2.2.1
    rw [sm_one (f := fun k => cof l x k * dirK l s k * cutK l s k u) (g := fun k => cof l x k * dirK l s k * cutK l s k y) (j := j) l.length hj1 (fun k hk hne2 => by
      show cof l x k * dirK l s k * cutK l s k u = cof l x k * dirK l s k * cutK l s k y
      rw [cut_same hg ⟨j, hj1, ids_ne hg hk hj1 (fun e => hne2 e.symm), ho, hx⟩]), ih y y1 y2 (by omega)]
    have hcyy : cutK l s j y = 0 := by unfold cutK; rw [if_pos hcy]
    show _ + (cof l x j * dirK l s j * cutK l s j u - cof l x j * dirK l s j * cutK l s j y) = _
    rw [hcyy, Int.mul_zero]
    rcases oth_ends ho hx with ⟨a, b⟩ | ⟨a, b⟩
    · have hcu : ¬ 0 ≤ far l (pp l j).1 s u := by rw [b]; rw [a] at hcy; exact hb.1 hcy
      have e1 : cutK l s j u = 1 := by unfold cutK; rw [if_neg hcu]
      have e2 : dirK l s j = 1 := by unfold dirK; rw [← b, if_neg hcu]
      rw [e1, e2]
      unfold cof
      rw [← a, ← b]
      clear ih hu hj ho hy hoy hcy hb hcyy a b hcu e1 e2
      repeat' split
      all_goals omega
    · have hcu : ¬ 0 ≤ far l (pp l j).1 s u := by rw [b]; rw [a] at hcy; exact fun h => hb.1 h hcy
      have e1 : cutK l s j u = 1 := by unfold cutK; rw [if_neg hcu]
      have e2 : dirK l s j = -1 := by unfold dirK; rw [← a, if_pos hcy]
      rw [e1, e2]
      unfold cof
      rw [← a, ← b]
      clear ih hu hj ho hy hoy hcy hb hcyy a b hcu e1 e2
      repeat' split
      all_goals omega
theorem dsum_cut {M : Nat} {l : List Pip} {s : Int} {ds : List Int} {k m : Nat} (hm : m < M) : dsum (distL M l (pp l k).1 s) ds (m + 1) = dsum (distL M l (pp l k).1 s) ds m + cutK l s k ((m : Int) + 1) * ds[m]?.getD 0 := by
  have e : (distL M l (pp l k).1 s)[m + 1]?.getD 0 = far l (pp l k).1 s ((m : Int) + 1) := by
    rw [distL_at (by omega) (by omega)]; rfl
  by_cases h : 0 ≤ far l (pp l k).1 s ((m : Int) + 1)
  · rw [dsum_no (by omega)]
    unfold cutK
    rw [if_pos h]
    omega
  · rw [dsum_yes (by omega)]
    unfold cutK
    rw [if_neg h]
    omega
theorem tflow_dir {M : Nat} {l : List Pip} {s : Int} {ds : List Int} {k : Nat} (hg : goodNet M l = true) (hk : k < l.length) : tflow M l s ds k = dirK l s k * dsum (distL M l (pp l k).1 s) ds M := by
  obtain ⟨-, -, p2, -, -⟩ := goodNet_pipe hg hk
  have e : (distL M l (pp l k).1 s)[(pp l k).2.2.1.toNat]?.getD 0 = far l (pp l k).1 s (pp l k).2.2.1 := by
    rw [distL_at (by omega) (by omega), show (((pp l k).2.2.1.toNat : Nat) : Int) = (pp l k).2.2.1 by omega]
  unfold tflow dirK
  rw [e]
  by_cases h : 0 ≤ far l (pp l k).1 s (pp l k).2.2.1
  · rw [if_neg (by omega), if_pos h]; omega
  · rw [if_pos (by omega), if_neg h]; omega
theorem tree_sums {M : Nat} {l : List Pip} {s x : Int} {ds : List Int} (hg : goodNet M l = true) (ht : treeB M l = true) (hs : 1 ≤ s ∧ s ≤ M) (hx : 1 ≤ x) : ∀ m, m ≤ M →
    sm (fun k => cof l x k * dirK l s k * dsum (distL M l (pp l k).1 s) ds m) l.length = (if x ≤ m then ds[x.toNat - 1]?.getD 0 else 0) - (if x = s then sm (fun j => ds[j]?.getD 0) m else 0)
  | 0, _ => by
    rw [sm_zero _ (fun k hk => by show _ * dsum _ _ 0 = 0; simp [dsum]), if_neg (by omega)]
    split <;> rfl
  | m + 1, hm => by
    have ih := tree_sums (ds := ds) hg ht hs hx m (by omega)
    have hc : 0 ≤ far l 0 s ((m : Int) + 1) := ((treeB_iff hg).1 ht).2 s _ hs.1 hs.2 (by omega) (by omega)
    have hu := unit_flow (x := x) hg ht hs (far l 0 s ((m : Int) + 1)).toNat ((m : Int) + 1) (by omega) (by omega) (by omega)
    rw [sm_ext l.length (g := fun k => cof l x k * dirK l s k * dsum (distL M l (pp l k).1 s) ds m + cof l x k * dirK l s k * cutK l s k ((m : Int) + 1) * ds[m]?.getD 0) (fun k hk => by
      show cof l x k * dirK l s k * dsum (distL M l (pp l k).1 s) ds (m + 1) = _
      rw [dsum_cut (by omega), Int.mul_add, Int.mul_assoc (cof l x k * dirK l s k)]), sm_add, ih, sm_mul, hu]
    simp only [sm]
    by_cases e1 : (m : Int) + 1 = x
    · rw [show x.toNat - 1 = m by omega]
      rw [if_pos e1, Int.sub_mul, Int.one_mul]
      generalize sm (fun j => ds[j]?.getD 0) m = Q
      generalize ds[m]?.getD 0 = R
      repeat' split
      all_goals omega
    · rw [if_neg e1, Int.sub_mul, Int.zero_mul]
      generalize sm (fun j => ds[j]?.getD 0) m = Q
      generalize ds[x.toNat - 1]?.getD 0 = R2
      generalize ds[m]?.getD 0 = R
      repeat' split
      all_goals omega
theorem sm_sum : ∀ (ds : List Int) (m : Nat), m = ds.length → sm (fun j => ds[j]?.getD 0) m = ds.sum := by
  intro ds m hm
  subst hm
  have : ∀ k, k ≤ ds.length → sm (fun j => ds[j]?.getD 0) k = (ds.take k).sum := by
    intro k
    induction k with
    | zero => intro _; simp [sm]
    | succ k ih => intro hk; simp only [sm]; rw [ih (by omega), sum_take_succ ds k (by omega)]
  rw [this _ (Nat.le_refl _), List.take_of_length_le (Nat.le_refl _)]
theorem tflows_get {M : Nat} {l : List Pip} {s : Int} {ds : List Int} {n k : Nat} (hk : k < n) : (tflows M l s ds n)[k]?.getD 0 = tflow M l s ds k := by simp [tflows, hk]
/-- With the flows of a tree no node has an imbalance. -/
theorem tree_imb {M : Nat} {l : List Pip} {s x : Int} {ds : List Int} (hg : goodNet M l = true) (ht : treeB M l = true) (hs : 1 ≤ s ∧ s ≤ M) (hd : ds.length = M) (hx : 1 ≤ x ∧ x ≤ M) : imb l ds (tflows M l s ds l.length) s x = 0 := by
  have h1 : net l (tflows M l s ds l.length) x l.length = sm (fun k => cof l x k * dirK l s k * dsum (distL M l (pp l k).1 s) ds M) l.length := by
    unfold net
    rw [sm_list]
    refine sm_ext _ (fun k hk => ?_)
    rw [inflow_cof, tflows_get hk, tflow_dir hg hk, Int.mul_assoc]
  unfold imb own
  rw [h1, tree_sums hg ht hs hx.1 M (Nat.le_refl _), if_pos hx.2, sm_sum ds M hd.symm]
  split <;> omega
theorem tree_bal {M : Nat} {l : List Pip} {s : Int} {ds : List Int} (hg : goodNet M l = true) (ht : treeB M l = true) (hs : 1 ≤ s ∧ s ≤ M) (hd : ds.length = M) : bal l ds (tflows M l s ds l.length) s M = true :=
  bal_yes (fun k hk => tree_imb hg ht hs hd (by omega))

/-- The imbalances of all nodes together are nothing. -/
theorem cof_all {l : List Pip} {k : Nat} {N : Int} (hg : goodNet N l = true) (hk : k < l.length) : ∀ m : Nat, sm (fun i => cof l ((i : Int) + 1) k) m = (if (pp l k).2.2.1 ≤ m then 1 else 0) - (if (pp l k).2.1 ≤ m then 1 else 0)
  | 0 => by
    obtain ⟨-, p1, p2, -, -⟩ := goodNet_pipe hg hk
    rw [if_neg (by omega), if_neg (by omega)]; rfl
  | m + 1 => by
    obtain ⟨-, p1, p2, hne, -⟩ := goodNet_pipe hg hk
    simp only [sm]
    rw [cof_all hg hk m]
    unfold cof
    clear hg hk
    repeat' split
    all_goals omega
theorem own_all {ds : List Int} {s : Int} (hs : 1 ≤ s) : ∀ m : Nat, sm (fun i => own ds s ((i : Int) + 1)) m = -(sm (fun j => ds[j]?.getD 0) m) + (if s ≤ m then ds.sum else 0)
  | 0 => by simp only [sm]; rw [if_neg (by omega)]; rfl
  | m + 1 => by
    simp only [sm]
    rw [own_all hs m]
    unfold own
    rw [show ((m : Int) + 1).toNat - 1 = m by omega]
    generalize sm (fun j => ds[j]?.getD 0) m = Q
    repeat' split
    all_goals omega
theorem imb_all {M : Nat} {l : List Pip} {s : Int} {ds fs : List Int} (hg : goodNet M l = true) (hs : 1 ≤ s ∧ s ≤ M) (hd : ds.length = M) : sm (fun i => imb l ds fs s ((i : Int) + 1)) M = 0 := by
  have e : sm (fun i => imb l ds fs s ((i : Int) + 1)) M = sm (fun i => own ds s ((i : Int) + 1)) M + sm (fun i => net l fs ((i : Int) + 1) l.length) M := by
    rw [← sm_add]; rfl
  have e2 : sm (fun i : Nat => net l fs ((i : Int) + 1) l.length) M = 0 := by
    rw [sm_ext (g := fun i : Nat => sm ((fun (i k : Nat) => cof l ((i : Int) + 1) k * fs[k]?.getD 0) i) l.length) M (fun i hi => by
      show net l fs ((i : Int) + 1) l.length = _
      unfold net
      rw [sm_list]
      exact sm_ext _ (fun k hk => inflow_cof _ _ _ _)), sm_swap]
    refine sm_zero _ (fun k hk => ?_)
    obtain ⟨-, p1, p2, -, -⟩ := goodNet_pipe hg hk
    rw [sm_mul (fun i => cof l ((i : Int) + 1) k), cof_all hg hk M, if_pos p2.2, if_pos p1.2]
    omega
  rw [e, e2, own_all hs.1 M, if_pos hs.2, sm_sum ds M hd.symm]
  omega

end Go.Proofs.Ytikjighlnpdgiaa

