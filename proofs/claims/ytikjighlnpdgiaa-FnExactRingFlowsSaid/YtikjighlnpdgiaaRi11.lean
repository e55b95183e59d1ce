/-
  Texts of this claim, joined: RingQ, PipeM, DelQ, InsQ, Remove, Node.
-/
import Derived.Deep.RegionLaw
import Derived.Deep.DeepAppendRoom
import Derived.Lib.SliceRun
import Derived.WalkSmall
import Derived.Shelf.Spec.SlicesInsertGrow
import Derived.Test.YtikjighlnpdgiaaRi3
import Derived.Test.YtikjighlnpdgiaaRi5
import Derived.Test.YtikjighlnpdgiaaRi6
import Derived.Test.YtikjighlnpdgiaaRi7
import Derived.Test.YtikjighlnpdgiaaRi8
import Derived.Test.YtikjighlnpdgiaaRi10
/-
  The best flows of a ring, plain: the first least energy among all turns of the loop, in a wide range and in a narrow one.
-/
set_option linter.unusedVariables false
set_option linter.unusedSimpArgs false
namespace Go.Proofs.Ytikjighlnpdgiaa
open Go.RowKit

/-- The first least place among lo, .., lo + k. -/
def bestT (E : Int → Int) (lo : Int) : Nat → Int
  | 0 => lo
  | k + 1 => if E (lo + ((k : Int) + 1)) < E (bestT E lo k) then lo + ((k : Int) + 1) else bestT E lo k
theorem bestT_yes {E : Int → Int} {lo : Int} {k : Nat} (h : E (lo + ((k : Int) + 1)) < E (bestT E lo k)) : bestT E lo (k + 1) = lo + ((k : Int) + 1) := by simp [bestT, h]
theorem bestT_no {E : Int → Int} {lo : Int} {k : Nat} (h : ¬ E (lo + ((k : Int) + 1)) < E (bestT E lo k)) : bestT E lo (k + 1) = bestT E lo k := by simp [bestT, h]

structure IsFirst (E : Int → Int) (lo hi x : Int) : Prop where
  low : lo ≤ x
  high : x ≤ hi
  bef : ∀ y, lo ≤ y → y < x → E x < E y
  aft : ∀ y, x < y → y ≤ hi → E x ≤ E y

theorem bestT_is (E : Int → Int) (lo : Int) : ∀ k : Nat, IsFirst E lo (lo + k) (bestT E lo k)
  | 0 => ⟨Int.le_refl _, by simp [bestT], fun y h1 h2 => by simp only [bestT] at h2; omega, fun y h1 h2 => by simp only [bestT] at h1; simp at h2; omega⟩
  | k + 1 => by
    obtain ⟨a, b, c, d⟩ := bestT_is E lo k
    by_cases h : E (lo + ((k : Int) + 1)) < E (bestT E lo k)
    · rw [bestT_yes h]
      refine ⟨by omega, by omega, fun y h1 h2 => ?_, fun y h1 h2 => by omega⟩
      by_cases e : y < bestT E lo k
      · have := c y h1 e
        omega
      · by_cases e2 : y = bestT E lo k
        · subst e2; exact h
        · have := d y (by omega) (by omega)
          omega
    · rw [bestT_no h]
      refine ⟨a, by omega, c, fun y h1 h2 => ?_⟩
      by_cases e : y ≤ lo + k
      · exact d y h1 e
      · have e3 : y = lo + ((k : Int) + 1) := by omega
        rw [e3]
        omega
theorem IsFirst.unique {E : Int → Int} {lo hi x y : Int} (h : IsFirst E lo hi x) (k : IsFirst E lo hi y) : x = y := by
  by_cases e : x < y
  · have a := h.aft y e k.high
    have b := k.bef x h.low e
    omega
  · by_cases e2 : y < x
    · have a := k.aft x e2 h.high
      have b := h.bef y k.low e2
      omega
    · omega
theorem IsFirst.wide {E : Int → Int} {lo hi T x : Int} (h : IsFirst E (-T) T x) (hT : 0 ≤ T) (hlo : lo ≤ -T) (hhi : T ≤ hi) (h1 : ∀ y, lo ≤ y → y < -T → E (y + 1) < E y) (h2 : ∀ y, T ≤ y → y < hi → E y ≤ E (y + 1)) : IsFirst E lo hi x := by
  have a : ∀ (n : Nat) (y : Int), y + n = -T → lo ≤ y → E (-T) ≤ E y ∧ (0 < n → E (-T) < E y) := by
    intro n
    induction n with
    | zero =>
      intro y hy _
      have e : y = -T := by omega
      rw [e]
      exact ⟨Int.le_refl _, fun h => absurd h (by omega)⟩
    | succ n ih =>
      intro y hy hl
      have b := h1 y hl (by omega)
      have c := (ih (y + 1) (by omega) (by omega)).1
      exact ⟨by omega, fun _ => by omega⟩
  have b : ∀ (n : Nat) (y : Int), T + n = y → y ≤ hi → E T ≤ E y := by
    intro n
    induction n with
    | zero =>
      intro y hy _
      have e : y = T := by omega
      rw [e]
      exact Int.le_refl _
    | succ n ih =>
      intro y hy hl
      have c := ih (y - 1) (by omega) (by omega)
      have d := h2 (y - 1) (by omega) (by omega)
      rw [show y - 1 + 1 = y by omega] at d
      omega
  have lT : E x ≤ E (-T) := by
    by_cases e : x = -T
    · rw [e]; exact Int.le_refl _
    · have := h.bef (-T) (by omega) (by have := h.low; omega)
      omega
  have hT2 : E x ≤ E T := by
    by_cases e : x = T
    · rw [e]; exact Int.le_refl _
    · exact h.aft T (by have := h.high; omega) (by omega)
  refine ⟨by have := h.low; omega, by have := h.high; omega, fun y y1 y2 => ?_, fun y y1 y2 => ?_⟩
  · by_cases e : y < -T
    · have := (a (-T - y).toNat y (by omega) y1).2 (by omega)
      omega
    · exact h.bef y (by omega) y2
  · by_cases e : y ≤ T
    · exact h.aft y y1 e
    · have := b (y - T).toNat y (by omega) y2
      omega

theorem sq_abs (q : Int) : q * q = max q (-q) * max q (-q) := by
  by_cases h : 0 ≤ q
  · rw [show max q (-q) = q by omega]
  · rw [show max q (-q) = -q by omega, Int.neg_mul_neg]
theorem cube_abs (s q : Int) : s * max q (-q) * q * q = s * (max q (-q) * (max q (-q) * max q (-q))) := by
  rw [Int.mul_assoc, sq_abs, Int.mul_assoc]
theorem cube_lt {s q p : Int} (hs : 1 ≤ s) (h : max q (-q) < max p (-p)) : s * max q (-q) * q * q < s * max p (-p) * p * p := by
  rw [cube_abs, cube_abs]
  have h0 : 0 ≤ max q (-q) := by omega
  generalize max q (-q) = a at *
  generalize max p (-p) = b at *
  have h1 : a * a ≤ b * b := Int.mul_le_mul (by omega) (by omega) h0 (by omega)
  have h2 : 0 < b * b := Int.mul_pos (by omega) (by omega)
  have h3 : a * (a * a) ≤ a * (b * b) := Int.mul_le_mul_of_nonneg_left h1 h0
  have h4 : a * (b * b) < b * (b * b) := Int.mul_lt_mul_of_pos_right h h2
  exact Int.mul_lt_mul_of_pos_left (by omega) (by omega)
theorem cube_eq {s q p : Int} (h : max q (-q) = max p (-p)) : s * max q (-q) * q * q = s * max p (-p) * p * p := by
  rw [cube_abs, cube_abs, h]
theorem cube_le {s q p : Int} (hs : 1 ≤ s) (h : max q (-q) ≤ max p (-p)) : s * max q (-q) * q * q ≤ s * max p (-p) * p * p := by
  by_cases e : max q (-q) = max p (-p)
  · rw [cube_eq e]; exact Int.le_refl _
  · exact Int.le_of_lt (cube_lt hs (by omega))
theorem enrg_mono {l : List Pip} {fs gs : List Int} : ∀ k : Nat, (∀ i, i < k → 1 ≤ (pp l i).2.2.2) → (∀ i, i < k → max (fs[i]?.getD 0) (-(fs[i]?.getD 0)) ≤ max (gs[i]?.getD 0) (-(gs[i]?.getD 0))) → enrg l fs k ≤ enrg l gs k ∧ ((∃ i, i < k ∧ max (fs[i]?.getD 0) (-(fs[i]?.getD 0)) < max (gs[i]?.getD 0) (-(gs[i]?.getD 0))) → enrg l fs k < enrg l gs k)
  | 0, _, _ => ⟨by simp [enrg], fun ⟨i, h, _⟩ => by omega⟩
  | k + 1, hs, h => by
    have ih := enrg_mono k (fun i hi => hs i (by omega)) (fun i hi => h i (by omega))
    have hk := cube_le (hs k (by omega)) (h k (by omega))
    rw [enrg_succ, enrg_succ]
    refine ⟨by omega, fun ⟨i, hi, hx⟩ => ?_⟩
    by_cases e : i = k
    · subst e
      have := cube_lt (hs i (by omega)) hx
      omega
    · have := ih.2 ⟨i, by omega, hx⟩
      omega

/-- A list with a 0 put in at a place. -/
def baseF (i : Nat) (L : List Int) : List Int := L.take i ++ [0] ++ L.drop i
theorem baseF_len {i : Nat} {L : List Int} : (baseF i L).length = L.length + 1 := by
  unfold baseF
  simp only [List.length_append, List.length_take, List.length_drop, List.length_singleton]
  omega
theorem baseF_mem {i : Nat} {L : List Int} {y : Int} (h : y ∈ baseF i L) : y = 0 ∨ y ∈ L := by
  unfold baseF at h
  simp only [List.mem_append, List.mem_singleton] at h
  rcases h with (h | h) | h
  · exact .inr (List.mem_of_mem_take h)
  · exact .inl h
  · exact .inr (List.mem_of_mem_drop h)
theorem baseF_at {i : Nat} {L : List Int} (h : i ≤ L.length) : (baseF i L)[i]?.getD 0 = 0 := by
  unfold baseF
  rw [List.getElem?_append_left (by simp; omega), List.getElem?_append_right (by simp; omega)]
  simp [Nat.min_eq_left h]
theorem baseF_up {i : Nat} {L : List Int} (h : i ≤ L.length) {k : Nat} (hk : k < L.length) : (baseF i L)[up i k]?.getD 0 = L[k]?.getD 0 := by
  unfold baseF up
  split
  · rename_i h1
    rw [List.append_assoc, List.getElem?_append_left (by simp; omega), List.getElem?_take_of_lt h1]
  · rename_i h1
    rw [List.getElem?_append_right (by simp; omega), List.getElem?_drop]
    congr 2
    simp
    omega

theorem dsum_le {D ds : List Int} (h : ∀ x ∈ ds, 0 ≤ x ∧ x ≤ 1000) : ∀ k, k ≤ ds.length → dsum D ds k ≤ (ds.take k).sum
  | 0, _ => by simp [dsum]
  | k + 1, hk => by
    have ih := dsum_le (D := D) h k (by omega)
    have hx := h _ (getD_mem ds k (by omega))
    rw [sum_take_succ ds k (by omega)]
    by_cases hp : D[k + 1]?.getD 0 < 0
    · rw [dsum_yes hp]; omega
    · rw [dsum_no hp]; omega
theorem tflow_in {M : Nat} {l : List Pip} {s : Int} {ds : List Int} (h : ∀ x ∈ ds, 0 ≤ x ∧ x ≤ 1000) (hm : ds.length = M) (i : Nat) : -ds.sum ≤ tflow M l s ds i ∧ tflow M l s ds i ≤ ds.sum := by
  have a := dsum_le (D := distL M l (pp l i).1 s) h M (by omega)
  have b := dsum_fit (D := distL M l (pp l i).1 s) h M (by omega)
  rw [List.take_of_length_le (by omega)] at a
  unfold tflow
  split <;> omega
theorem tflows_in {M : Nat} {l : List Pip} {s : Int} {ds : List Int} (h : ∀ x ∈ ds, 0 ≤ x ∧ x ≤ 1000) (hm : ds.length = M) {k : Nat} {y : Int} (hy : y ∈ tflows M l s ds k) : -ds.sum ≤ y ∧ y ≤ ds.sum := by
  unfold tflows at hy
  obtain ⟨i, -, rfl⟩ := List.mem_map.1 hy
  exact tflow_in h hm i
theorem nonneg_sum {ds : List Int} (h : ∀ x ∈ ds, 0 ≤ x ∧ x ≤ 1000) : 0 ≤ ds.sum := by
  have a := dsum_le (D := []) h ds.length (Nat.le_refl _)
  have b := dsum_fit (D := []) h ds.length (Nat.le_refl _)
  rw [List.take_of_length_le (Nat.le_refl _)] at a
  omega

/-- The flows of a ring before the loop is turned. -/
noncomputable def ringBase (M : Nat) (l : List Pip) (s : Int) (ds : List Int) : List Int := baseF (firstL l) (tflows M (l.eraseIdx (firstL l)) s ds (l.length - 1))
theorem ringBase_len {M : Nat} {l : List Pip} {s : Int} {ds : List Int} (h : 0 < l.length) : (ringBase M l s ds).length = l.length := by
  unfold ringBase
  rw [baseF_len, tflows_len]
  omega
theorem ringBase_in {M : Nat} {l : List Pip} {s : Int} {ds : List Int} (h : ∀ x ∈ ds, 0 ≤ x ∧ x ≤ 1000) (hm : ds.length = M) {y : Int} (hy : y ∈ ringBase M l s ds) : -ds.sum ≤ y ∧ y ≤ ds.sum := by
  have := nonneg_sum h
  rcases baseF_mem hy with rfl | hy
  · omega
  · exact tflows_in h hm hy
/-- The energy with the loop turned. -/
noncomputable def ringE (M : Nat) (l : List Pip) (s : Int) (ds : List Int) (x : Int) : Int := enrg l (turnF (loopS l) (ringBase M l s ds) x l.length) l.length

theorem turn_step {S fs : List Int} {n i : Nat} {T y : Int} (hn : fs.length = n) (hi : i < n) (hs : -1 ≤ S[i]?.getD 0 ∧ S[i]?.getD 0 ≤ 1) (hf : -T ≤ fs[i]?.getD 0 ∧ fs[i]?.getD 0 ≤ T) :
    (y < -T → max ((turnF S fs (y + 1) n)[i]?.getD 0) (-((turnF S fs (y + 1) n)[i]?.getD 0)) ≤ max ((turnF S fs y n)[i]?.getD 0) (-((turnF S fs y n)[i]?.getD 0)) ∧ (¬ S[i]?.getD 0 = 0 → max ((turnF S fs (y + 1) n)[i]?.getD 0) (-((turnF S fs (y + 1) n)[i]?.getD 0)) < max ((turnF S fs y n)[i]?.getD 0) (-((turnF S fs y n)[i]?.getD 0)))) ∧
    (T ≤ y → max ((turnF S fs y n)[i]?.getD 0) (-((turnF S fs y n)[i]?.getD 0)) ≤ max ((turnF S fs (y + 1) n)[i]?.getD 0) (-((turnF S fs (y + 1) n)[i]?.getD 0))) := by
  rw [turnF_get S fs (y + 1) n i hi (by omega), turnF_get S fs y n i hi (by omega)]
  generalize fs[i]?.getD 0 = f at *
  generalize S[i]?.getD 0 = t at *
  have h3 : t = -1 ∨ t = 0 ∨ t = 1 := by omega
  rcases h3 with rfl | rfl | rfl
  · refine ⟨fun h => ⟨by omega, fun _ => by omega⟩, fun h => by omega⟩
  · refine ⟨fun h => ⟨by omega, fun h => absurd rfl h⟩, fun h => by omega⟩
  · refine ⟨fun h => ⟨by omega, fun _ => by omega⟩, fun h => by omega⟩

theorem turn_in {M : Nat} {l : List Pip} {ds : List Int} {s x : Int} (hr : 0 < l.length) (h : ∀ x ∈ ds, 0 ≤ x ∧ x ≤ 1000) (hm : ds.length = M) (ht : ds.sum ≤ 200) (hx : -401 ≤ x ∧ x ≤ 401) : ∀ y ∈ turnF (loopS l) (ringBase M l s ds) x l.length, -601 ≤ y ∧ y ≤ 601 := by
  intro y hy
  obtain ⟨i, hi, rfl⟩ := List.mem_iff_getElem.1 hy
  have hl : (ringBase M l s ds).length = l.length := ringBase_len hr
  rw [turnF_len, hl] at hi
  have e := turnF_get (loopS l) (ringBase M l s ds) x l.length i hi (by omega)
  rw [List.getElem?_eq_getElem (by rw [turnF_len]; omega), Option.getD_some] at e
  rw [e]
  have a := ringBase_in (s := s) (l := l) h hm (getD_mem (ringBase M l s ds) i (by omega))
  have b := sign_mul (A := 401) (loopS_fit l hi) hx
  omega

theorem ringE_falls {M : Nat} {l : List Pip} {s : Int} {ds : List Int} (hg : goodNet M l = true) (hr : ringB M l = true) (h : ∀ x ∈ ds, 0 ≤ x ∧ x ≤ 1000) (hm : ds.length = M) : (∀ y, y < -ds.sum → ringE M l s ds (y + 1) < ringE M l s ds y) ∧ (∀ y, ds.sum ≤ y → ringE M l s ds y ≤ ringE M l s ds (y + 1)) := by
  obtain ⟨h1, h2, h3⟩ := firstL_ok (ring_on hg hr)
  have hl : (ringBase M l s ds).length = l.length := ringBase_len (by omega)
  have hst := fun (y : Int) (i : Nat) (hi : i < l.length) => turn_step (S := loopS l) (T := ds.sum) (y := y) hl hi (loopS_fit l hi) (ringBase_in h hm (getD_mem _ i (by omega)))
  have hsz : ∀ i, i < l.length → 1 ≤ (pp l i).2.2.2 := fun i hi => (goodNet_pipe hg hi).2.2.2.2.1
  refine ⟨fun y hy => ?_, fun y hy => ?_⟩
  · refine (enrg_mono l.length hsz (fun i hi => ((hst y i hi).1 hy).1)).2 ⟨firstL l, h1, ((hst y _ h1).1 hy).2 ?_⟩
    intro e
    rw [loopS_on hg hr h1, h2] at e
    cases e
  · exact (enrg_mono l.length hsz (fun i hi => (hst y i hi).2 hy)).1
/-- In the wide range the first least turn is the one in the narrow range. -/
theorem ring_best {M : Nat} {l : List Pip} {s : Int} {ds : List Int} (hg : goodNet M l = true) (hr : ringB M l = true) (h : ∀ x ∈ ds, 0 ≤ x ∧ x ≤ 1000) (hm : ds.length = M) (ht : ds.sum ≤ 200) : bestT (ringE M l s ds) (-400) 800 = bestT (ringE M l s ds) (-ds.sum) (2 * ds.sum).toNat := by
  have h0 := nonneg_sum h
  obtain ⟨f1, f2⟩ := ringE_falls (s := s) hg hr h hm
  have a := bestT_is (ringE M l s ds) (-400) 800
  have b := bestT_is (ringE M l s ds) (-ds.sum) (2 * ds.sum).toNat
  rw [show -ds.sum + ((2 * ds.sum).toNat : Int) = ds.sum by omega] at b
  rw [show (-400 : Int) + ((800 : Nat) : Int) = 400 by omega] at a
  exact a.unique (b.wide h0 (by omega) (by omega) (fun y _ hy => f1 y hy) (fun y hy _ => f2 y hy))

/-- The conditions of RingFlows, and what it returns. -/
noncomputable def canRing (N : Int) (l : List Pip) (s : Int) (ds : List Int) : Bool := (goodNet N l && ringB N l) && inR s 1 N && goodDem N ds && decide (ds.sum ≤ 200)
noncomputable def ringX (M : Nat) (l : List Pip) (s : Int) (ds : List Int) : Int := bestT (ringE M l s ds) (-ds.sum) (2 * ds.sum).toNat
noncomputable def ringFs (M : Nat) (l : List Pip) (s : Int) (ds : List Int) : List Int := turnF (loopS l) (ringBase M l s ds) (ringX M l s ds) l.length
noncomputable def ringsR (N : Int) (l : List Pip) (s : Int) (ds : List Int) : List Int × Bool := if canRing N l s ds = true then (ringFs N.toNat l s ds, true) else ([], false)
theorem canRing_iff {N : Int} {l : List Pip} {s : Int} {ds : List Int} (h : canRing N l s ds = true) : goodNet N l = true ∧ ringB N l = true ∧ (1 ≤ s ∧ s ≤ N) ∧ ((ds.length : Int) = N ∧ ∀ x ∈ ds, 0 ≤ x ∧ x ≤ 1000) ∧ ds.sum ≤ 200 := by
  unfold canRing at h
  simp only [Bool.and_eq_true, decide_eq_true_eq] at h
  exact ⟨h.1.1.1.1, h.1.1.1.2, inR_iff.1 h.1.1.2, goodDem_iff.1 h.1.2, h.2⟩
theorem ringsR_no {N : Int} {l : List Pip} {s : Int} {ds : List Int} (h : (goodNet N l = true ∧ ringB N l = true ∧ inR s 1 N = true ∧ goodDem N ds = true ∧ ds.sum ≤ 200) → False) : ringsR N l s ds = ([], false) := by
  unfold ringsR
  rw [if_neg]
  intro hc
  unfold canRing at hc
  simp only [Bool.and_eq_true, decide_eq_true_eq] at hc
  exact h ⟨hc.1.1.1.1, hc.1.1.1.2, hc.1.1.2, hc.1.2, hc.2⟩
theorem ringsR_len {N : Int} {l : List Pip} {s : Int} {ds R : List Int} {b : Bool} (h : ringsR N l s ds = (R, b)) : R.length ≤ 1000 := by
  unfold ringsR at h
  split at h
  · rename_i h1
    cases h
    have hg := canRing_iff h1
    have h2 := (goodNet_get hg.1).2.1
    have h3 := (goodNet_get hg.1).1
    have hl : l.length = N.toNat := by
      have e : (N.toNat : Int) = N := by omega
      have := ((ringB_iff (M := N.toNat) (by rw [e]; exact hg.1)).1 (by rw [e]; exact hg.2.1)).1
      exact this
    unfold ringFs
    rw [turnF_len, ringBase_len (by omega)]
    omega
  · cases h; simp

end Go.Proofs.Ytikjighlnpdgiaa

/-
  What the laws do with pipes and networks: they mark them and look at the marks.
-/
set_option linter.unusedVariables false
set_option linter.unusedSimpArgs false
namespace Go.Proofs.Ytikjighlnpdgiaa
open Go.RowKit

/-- The marked list. -/
def markedPipe (k0 : Int) (n : Nat) : List Pip := (List.range n).map (fun i : Nat => ((k0 + 4 * (i : Int), k0 + 4 * (i : Int) + 1, k0 + 4 * (i : Int) + 1 + 1, k0 + 4 * (i : Int) + 1 + 1 + 1) : Pip))
theorem markedPipe_len (k0 : Int) (n : Nat) : (markedPipe k0 n).length = n := by simp [markedPipe]
theorem markedPipe_get (k0 : Int) (n i : Nat) (h : i < n) : (markedPipe k0 n)[i]?.getD default = ((k0 + 4 * (i : Int), k0 + 4 * (i : Int) + 1, k0 + 4 * (i : Int) + 1 + 1, k0 + 4 * (i : Int) + 1 + 1 + 1) : Pip) := by simp [markedPipe, h]

set_option maxHeartbeats 2000000 in
theorem l_markPipeS (a : Option Addr) (n c B : Nat) (l : List Pip) (k0 : Int) (w : World) (h : OwnQ w B (.slice a n c) l) (hn : n ≤ 1048576) (hk : 0 ≤ k0 ∧ k0 ≤ 1000000000000) :
    Calls Try.prog 53 #[.slice a n c, .int .i64 k0] w fun e w' => e = .returned (.int .i64 (k0 + 4 * (n : Int))) ∧ OwnQ w' B (.slice a n c) (markedPipe k0 n) ∧ w.grownBy w' (Value.ownBlock (.slice a n c)) := by
  have h0 := h
  unfold OwnQ OwnS at h
  rcases h.2 with ⟨h1, h0'⟩ | ⟨g, cap, cur, h1, hB, hg, hnc, hm, hs, ht⟩
  · simp only [Value.slice.injEq] at h1
    obtain ⟨rfl, rfl, rfl⟩ := h1
    clear h h0 h0'
    go_enter Try.func53, Try.ntmps53
    go_wp2
    refine wp_loop_rounds 1 ?_
    rw [rounds_succ]
    go_wp2
    go_ret
    exact ⟨ret_int (by simp), OwnS.nil _ _, World.grownBy.refl _ _⟩
  · simp only [Value.slice.injEq] at h1
    obtain ⟨rfl, -, rfl⟩ := h1
    clear hg hs ht hm hnc hB h
    have H := hid h0
    have HN := hid (OwnS.len h0)
    clear h0
    go_enter Try.func53, Try.ntmps53
    go_wp2
    go_loopw [1, 5] (fun s i wr => ∃ (k : Nat) (l' : List Pip), k ≤ n ∧ i = .int .i64 k ∧ s = .int .i64 (k0 + 4 * (k : Int)) ∧ Hid (OwnQ wr B (.slice (some ⟨g, 0, none⟩) n c) l' ∧ l'.take k = (markedPipe k0 n).take k ∧ w.grownBy wr (some g))) (fun _ i _ => n - (intOf i).toNat)
    case atStart => exact ⟨0, l, Nat.zero_le _, rfl, by simp, H.out, by simp, World.grownBy.refl _ _⟩
    case round =>
      obtain ⟨k, l', hkn, rfl, rfl, hh⟩ := hrel
      by_cases hlt : k < n
      · obtain ⟨y0, y1, y2, y3⟩ := hh.out.1.cells (k := k) hlt
        obtain ⟨f0, f1, f2, f3⟩ := hh.out.1.frozen (k := k)
        go_wp2
        go_roundw
        case rel =>
          obtain ⟨o1, g1⟩ := OwnS.setAll qf_len (by decide) hh.out.1 hlt ((k0 + 4 * (k : Int), k0 + 4 * (k : Int) + 1, k0 + 4 * (k : Int) + 1 + 1, k0 + 4 * (k : Int) + 1 + 1 + 1) : Pip)
          exact ⟨k + 1, _, by omega, by go_num, by congr 1; omega, o1, by rw [← markedPipe_get k0 n k hlt]; exact take_setS (markedPipe_len _ _) hh.out.1.len hlt hh.out.2.1, grownBy_trans hh.out.2.2 g1⟩
        case measure => simp [intOf]; omega
      · go_wp2
        go_ret
        obtain rfl : k = n := by omega
        refine ⟨ret_int (by omega), ?_, hh.out.2.2⟩
        have e := hh.out.2.1
        rw [List.take_of_length_le (by have := hh.out.1.len; omega), List.take_of_length_le (by rw [markedPipe_len]; omega)] at e
        subst e
        exact hh.out.1

theorem l_markNetwork (N : Int) (a : Option Addr) (n c B : Nat) (l : List Pip) (k0 : Int) (w : World) (h : OwnQ w B (.slice a n c) l) (hn : n ≤ 1048576) (hk : 0 ≤ k0 ∧ k0 ≤ 1000000000000) :
    Calls Try.prog 12 #[.agg #[.int .i64 N, .slice a n c], .int .i64 k0] w fun e w' => e = .returned (.int .i64 (k0 + 4 * (n : Int))) ∧ OwnQ w' B (.slice a n c) (markedPipe k0 n) ∧ w.grownBy w' (Value.ownBlock (.slice a n c)) := by
  have H := hid h
  clear h
  go_enter Try.func12, Try.ntmps12
  go_wp2_with fail
  refine (l_markPipeS _ _ _ B l _ _ (OwnS.alloc H.out _) (by omega) hk).mono ?_
  rintro e w1 ⟨rfl, ho, hg⟩
  have HO := hid ho
  have HG := hid (grownBy_trans (grown_of_below ((Below.refl w.heap.size w).alloc (Nat.le_refl _) _) _) hg)
  clear ho hg
  go_wp2
  go_ret
  exact ⟨rfl, HO.out, HG.out⟩


end Go.Proofs.Ytikjighlnpdgiaa

/-
  slices.Delete of one pipe.
-/
set_option linter.unusedVariables false
set_option linter.unusedSimpArgs false
namespace Go.Proofs.Ytikjighlnpdgiaa
open Go.RowKit

def putL (xs : List Value) : Nat → List Value → List Value
  | _, [] => xs
  | o, v :: r => putL (xs.set o v) (o + 1) r
theorem putL_eq : ∀ (vs xs : List Value) (o : Nat), o + vs.length ≤ xs.length → putL xs o vs = xs.take o ++ vs ++ xs.drop (o + vs.length)
  | [], xs, o, h => by simp [putL]
  | v :: r, xs, o, h => by
    simp only [List.length_cons] at h
    rw [putL, putL_eq r (xs.set o v) (o + 1) (by simp; omega)]
    have hlt : o < xs.length := by omega
    rw [List.take_add_one, List.getElem?_set_self hlt, List.take_set_of_le (Nat.le_refl o), List.drop_set_of_lt (by omega)]
    simp only [Option.toList_some, List.length_cons, List.append_assoc, List.singleton_append, List.cons_append, List.nil_append]
    rw [show o + (r.length + 1) = o + 1 + r.length by omega]
theorem own_setCells {base : Nat} {e : TypeId} {size g cap n : Nat} : ∀ (vs : List Value) (o : Nat) (w : World) (xs : List Value), w.ownsRow base e size (.slice (some ⟨g, 0, none⟩) n cap) n xs → (w.setCells g o vs).ownsRow base e size (.slice (some ⟨g, 0, none⟩) n cap) n (putL xs o vs) ∧ w.grownBy (w.setCells g o vs) (some g)
  | [], _, w, _, h => ⟨h, grown_of_below (Below.refl _ _) _⟩
  | v :: r, o, w, xs, h => by
    obtain ⟨h1, h2⟩ := World.ownsRow.stored h o v
    obtain ⟨h3, h4⟩ := own_setCells r (o + 1) _ _ h1
    exact ⟨h3, grownBy_trans h2 h4⟩
theorem flat_take (l : List Pip) (i : Nat) : (l.flatMap qf).take (i * 4) = (l.take i).flatMap qf := by
  by_cases h : i ≤ l.length
  · have e : l.flatMap qf = (l.take i).flatMap qf ++ (l.drop i).flatMap qf := by rw [← List.flatMap_append, List.take_append_drop]
    have e2 : ((l.take i).flatMap qf).length = i * 4 := by rw [flat_len qf 4 qf_len, List.length_take]; congr 1; omega
    rw [e, ← e2, List.take_left']
    rfl
  · rw [List.take_of_length_le (by rw [flat_len qf 4 qf_len]; omega), List.take_of_length_le (l := l) (by omega)]
theorem run_clear_one {P : Program} (w : World) (t e ty : TypeId) (z : Value) (ht : P.underlying t = some (.slice e)) (hv : ∀ w, (zeroValue e).run P w = .ok z w) (h1 : ∀ u ∈ z.cells.toList, u.oneCell' = true) (b o c : Nat)
    (hc : ∀ j, j < z.cells.toList.length → (w.cell? ⟨b, o + j, none⟩).isSome = true) (hf : ∀ j, j < z.cells.toList.length → w.frozen? ⟨b, o + j, none⟩ = false) :
    (Builtin.clear_ #[t] ty #[.slice (some ⟨b, o, none⟩) 1 c]).run P w = .ok (.tuple #[]) (w.setCells b o z.cells.toList) := by
  have hzc : (Builtin.zeroCells z.cells 1).toList = z.cells.toList := by
    simp [Builtin.zeroCells]
    apply List.ext_getElem
    · simp
    · intro i h1 h2
      simp at h1 h2
      simp [Nat.mod_eq_of_lt h2]
      rw [getElem!_pos z.cells i (by assumption)]
  have hst := run_storeCells_cells (P := P) b o z.cells.toList 0 w (by simpa using hc) (by simpa using hf) h1
  simp only [Nat.add_zero] at hst
  simp [Builtin.clear_, run_underlying ht, hv, hzc, hst]

theorem flat_drop (l : List Pip) (i : Nat) : (l.flatMap qf).drop (i * 4) = (l.drop i).flatMap qf := by
  have h1 := List.take_append_drop (i * 4) (l.flatMap qf)
  rw [flat_take] at h1
  have h2 : (l.take i).flatMap qf ++ (l.drop i).flatMap qf = l.flatMap qf := by rw [← List.flatMap_append, List.take_append_drop]
  rw [← h2] at h1
  have h3 := List.append_cancel_left h1
  rw [h2] at h3
  exact h3
theorem Try.zeroPipe : ∀ w, (zeroValue 71).run Try.prog w = .ok (.agg #[.int .i64 0, .int .i64 0, .int .i64 0, .int .i64 0]) w := by
  intro w
  kernel_rfl

set_option maxRecDepth 100000 in
set_option maxHeartbeats 4000000 in
theorem f_DeletePipe (g n c i J B : Nat) (l : List Pip) (w : World) (h : OwnQ w B (.slice (some ⟨g, 0, none⟩) n c) l) (hn : n ≤ 1000) (hi : i < n) (hJ : J = i + 1) :
    Calls Try.prog 47 #[.slice (some ⟨g, 0, none⟩) n c, .int .i64 i, .int .i64 J] w fun e w' => e = .returned (.slice (some ⟨g, 0, none⟩) (n - 1) c) ∧ OwnQ w' B (.slice (some ⟨g, 0, none⟩) (n - 1) c) (l.eraseIdx i) ∧ w.grownBy w' (some g) := by
  obtain ⟨i0, hi0, hz0, hz1, hz2⟩ := info_parts Try.infoPipe
  have hl := OwnS.len h
  have hrow := OwnS.row h
  have hcap : n ≤ c := own_capQ h
  have hcm : c ≤ 9223372036854775807 := by
    rcases h.2 with ⟨h1, h0⟩ | ⟨g', cap, cur, h1, hB, hg, hnc, hm, hs, ht⟩
    · simp at h1
    · simp only [Value.slice.injEq] at h1
      obtain ⟨-, -, rfl⟩ := h1
      unfold maxLen at hm
      omega
  have hgz := (OwnS.lt h g rfl).2
  have hcell : ∀ t, t < n * 4 → w.cell? ⟨g, t, none⟩ = (l.flatMap qf)[t]? := fun t ht => World.ownsRow.cellAt hrow t ht
  have hfro : ∀ t, w.frozen? ⟨g, t, none⟩ = false := fun t => World.ownsRow.frozenAt hrow t
  have hfl := flat_len qf 4 qf_len l
  rw [hl] at hfl
  obtain ⟨news, hnews⟩ : ∃ news, news = (l.drop J).flatMap qf := ⟨_, rfl⟩
  have hnl : news.length = (n - J) * 4 := by rw [hnews, flat_len qf 4 qf_len, List.length_drop, hl]
  obtain ⟨h1, h2⟩ := own_setCells news (i * 4) w.drew _ (World.ownsRow.drew hrow)
  have he : l.take i ++ l.drop J = l.eraseIdx i := by rw [hJ, ← List.eraseIdx_eq_take_drop_succ]
  have hel : (l.eraseIdx i).length = n - 1 := by rw [List.length_eraseIdx_of_lt (by omega)]; omega
  have hput1 : putL (l.flatMap qf) (i * 4) news = (l.eraseIdx i).flatMap qf ++ (l.flatMap qf).drop ((n - 1) * 4) := by
    rw [putL_eq _ _ _ (by rw [hfl, hnl]; omega), flat_take, hnl, hnews, ← List.flatMap_append, he, show i * 4 + (n - J) * 4 = (n - 1) * 4 by omega]
  obtain ⟨W1, hW1⟩ : ∃ W1, W1 = w.drew.setCells g (0 + i * 4) news := ⟨_, rfl⟩
  rw [← Nat.zero_add (i * 4)] at h1 h2
  rw [← hW1] at h1 h2
  rw [Nat.zero_add, hput1] at h1
  have hel2 : ((l.eraseIdx i).flatMap qf).length = (n - 1) * 4 := by rw [flat_len qf 4 qf_len, hel]
  have hdl : ((l.flatMap qf).drop ((n - 1) * 4)).length = 4 := by rw [List.length_drop, hfl]; omega
  obtain ⟨h3, h4⟩ := own_setCells [.int .i64 0, .int .i64 0, .int .i64 0, .int .i64 0] ((n - 1) * 4) W1 _ h1
  have hput2 : putL ((l.eraseIdx i).flatMap qf ++ (l.flatMap qf).drop ((n - 1) * 4)) ((n - 1) * 4) [.int .i64 0, .int .i64 0, .int .i64 0, .int .i64 0] = (l.eraseIdx i).flatMap qf ++ [.int .i64 0, .int .i64 0, .int .i64 0, .int .i64 0] := by
    rw [putL_eq _ _ _ (by rw [List.length_append, hel2, hdl]; simp), List.take_left' hel2, List.drop_of_length_le (by rw [List.length_append, hel2, hdl]; simp), List.append_nil]
  rw [hput2] at h3
  have hcell1 : ∀ t, t < n * 4 → (W1.cell? ⟨g, t, none⟩).isSome = true := fun t ht => by
    rw [World.ownsRow.cellAt h1 t ht, List.getElem?_eq_getElem (by rw [List.length_append, hel2, hdl]; omega)]
    rfl
  have hfro1 : ∀ t, W1.frozen? ⟨g, t, none⟩ = false := fun t => World.ownsRow.frozenAt h1 t
  have hfin : OwnQ (W1.setCells g ((n - 1) * 4) [.int .i64 0, .int .i64 0, .int .i64 0, .int .i64 0]) B (.slice (some ⟨g, 0, none⟩) (n - 1) c) (l.eraseIdx i) := by
    refine OwnS.of_row qf_len (by decide) (n := n - 1) ?_
    refine ownsRow_pop (last := [.int .i64 0, .int .i64 0, .int .i64 0, .int .i64 0]) hel2 ?_
    rw [show n - 1 + 1 = n by omega]
    exact h3
  have HFIN := hid (show OwnQ (W1.setCells g ((n - 1) * 4) [.int .i64 0, .int .i64 0, .int .i64 0, .int .i64 0]) B (.slice (some ⟨g, 0, none⟩) (n - 1) c) (l.eraseIdx i) ∧ w.grownBy (W1.setCells g ((n - 1) * 4) [.int .i64 0, .int .i64 0, .int .i64 0, .int .i64 0]) (some g) from ⟨hfin, grownBy_trans (grownBy_trans (grown_of_below ((Below.refl _ _).drew) _) h2) h4⟩)
  obtain ⟨A, hA, hsrc⟩ : ∃ A : Addr, (if c = J then (some ⟨g, 0, none⟩ : Option Addr) else some ⟨g, J * 4, none⟩) = some A ∧ Hid (∀ t u, news[t]? = some u → w.drew.cell? (A.add t) = some u) := by
    by_cases hc : c = J
    · refine ⟨⟨g, 0, none⟩, by simp [hc], fun t u hu => ?_⟩
      have h0 : news.length = 0 := by rw [hnl]; omega
      rw [List.length_eq_zero_iff.1 h0] at hu
      simp at hu
    · refine ⟨⟨g, J * 4, none⟩, by simp [hc], fun t u hu => ?_⟩
      have ht : t < (n - J) * 4 := by rw [← hnl]; exact (List.getElem?_eq_some_iff.1 hu).1
      rw [addr_add]
      show w.cell? ⟨g, J * 4 + t, none⟩ = some u
      rw [hcell _ (by omega), ← hu, hnews, ← flat_drop, List.getElem?_drop]
  have s1 : Hid (news.length = (n - J) * 4) := hnl
  have s2 : Hid (∀ u ∈ news, u.oneCell' = true) := by
    intro u hu
    rw [hnews] at hu
    obtain ⟨x, -, hx⟩ := List.mem_flatMap.1 hu
    exact qf_one x u hx
  have s3 : Hid (∀ t, t < news.length → (w.drew.cell? ⟨g, 0 + i * 4 + t, none⟩).isSome = true ∧ w.drew.frozen? ⟨g, 0 + i * 4 + t, none⟩ = false) := by
    intro t ht
    rw [hnl] at ht
    refine ⟨?_, hfro _⟩
    show (w.cell? _).isSome = true
    rw [Nat.zero_add, hcell _ (by omega), List.getElem?_eq_getElem (by rw [hfl]; omega)]
    rfl
  have hcl : ∀ ty cc, (Builtin.clear_ #[29] ty #[.slice (some ⟨g, (n - 1) * 4, none⟩) 1 cc]).run Try.prog W1 = .ok (.tuple #[]) (W1.setCells g ((n - 1) * 4) [.int .i64 0, .int .i64 0, .int .i64 0, .int .i64 0]) := fun ty cc =>
    run_clear_one W1 _ _ ty (.agg #[.int .i64 0, .int .i64 0, .int .i64 0, .int .i64 0]) Try.underlying29 Try.zeroPipe (by intro u hu; simp [Value.cells] at hu; subst hu; rfl) g ((n - 1) * 4) cc (fun j hj => hcell1 _ (by simp [Value.cells] at hj; omega)) (fun j hj => hfro1 _)
  have hW : Hid (W1 = w.drew.setCells g (0 + i * 4) news) := hW1
  have X := hid hcl
  have hJ0 : (0 : Int) ≤ (J : Int) := by omega
  have hi0' : (0 : Int) ≤ (i : Int) := by omega
  have k1 : (i : Int) ≤ (J : Int) := by omega
  have k2 : (J : Int) ≤ (n : Int) := by omega
  have k3 : (n : Int) ≤ (c : Int) := by omega
  have k4 : ((i : Int) == (J : Int)) = false := by simp; omega
  have k5 : (i : Int) ≤ (n : Int) := by omega
  have k6 : (i : Int) ≤ (c : Int) := by omega
  have k7 : (J : Int) ≤ (c : Int) := by omega
  have HN := hid (show n - J + i = n - 1 ∧ i + (n - J) = n - 1 from by omega)
  clear h1 h2 h3 h4 hW1 hput1 hput2 hcell hcell1 hfro hfro1 hfin hcl hnews hnl he hel hel2 hdl hfl hrow h hJ
  go_enter Try.func47, Try.ntmps47
  go_upto_region 5 with fail
  go_region_law (refine step_append_room rfl (.tmp 22) (.tmp 25) 29 rfl 71 i0 4 Try.underlying29 hi0 hz1 g 0 i c (by simp [Act.eval, Act.put]) A (n - J) (c - J) news (by simp [Act.eval, Act.put]) s1.out hsrc.out s2.out (by omega) s3.out ?_; rw [← hW.out])
  have hcl2 : ∀ ty, (Builtin.clear_ #[29] ty #[.slice (some ⟨g, (i + (n - J)) * 4, none⟩) (n - (i + (n - J))) (c - (i + (n - J)))]).run Try.prog W1 = .ok (.tuple #[]) (W1.setCells g ((n - 1) * 4) [.int .i64 0, .int .i64 0, .int .i64 0, .int .i64 0]) := fun ty => by
    rw [HN.out.2, show n - (n - 1) = 1 by omega]
    exact X.out ty _
  have hcc : ¬ c = i + (n - J) := by have := HN.out; omega
  go_wp2
  go_ret
  rw [HN.out.2]
  exact ⟨rfl, HFIN.out.1, HFIN.out.2⟩

end Go.Proofs.Ytikjighlnpdgiaa

/-
  slices.Insert of one number into a slice of the call's own, by the library's contracts.
-/
set_option linter.unusedVariables false
set_option linter.unusedSimpArgs false
namespace Go.Proofs.Ytikjighlnpdgiaa
open Go.RowKit

def insRen : Go.Shelf.Ren where
  f := fun x => match x with
    | 21 => 48
    | 27 => 84
    | 28 => 85
    | 35 => 104
    | 39 => 107
    | n => n
  t := fun x => match x with
    | 22 => 25
    | 3 => 3
    | 4 => 4
    | 0 => 0
    | n => n
  g := fun x => x
theorem insLays : Lays2.n21 Try.prog insRen :=
  { mixed := by kernel_rfl
    f21 := Try.func48.trans (congrArg some (by kernel_rfl))
    f27 := Try.func84.trans (congrArg some (by kernel_rfl))
    f28 := Try.func85.trans (congrArg some (by kernel_rfl))
    f35 := Try.func104.trans (congrArg some (by kernel_rfl))
    f39 := Try.func107.trans (congrArg some (by kernel_rfl))
    t0 := Try.underlying0, a0 := Try.isAgg0, z0 := Try.sizeOf0, v0 := Try.zeroValue0
    t3 := Try.underlying3, a3 := Try.isAgg3, z3 := Try.sizeOf3, v3 := Try.zeroValue3
    t4 := Try.underlying4, a4 := Try.isAgg4, z4 := Try.sizeOf4, v4 := Try.zeroValue4
    t22 := Try.underlying25, a22 := Try.isAgg25, z22 := Try.sizeOf25, v22 := Try.zeroValue25
    i3 := by kernel_rfl }

theorem ins_step {w a b : World} {g : Nat} {row : Option Nat} (h1 : w.grownBy a (some g)) (h2 : a.grownBy b row) (hr : ∀ k, row = some k → w.heap.size ≤ k ∨ k = g) : w.grownBy b (some g) := by
  refine ⟨h2.os.trans h1.os, h2.tape.trans h1.tape, h2.output.trans h1.output, Nat.le_trans h1.size h2.size, fun i hi hne => ?_⟩
  rw [h2.block i (by have := h1.size; omega) (fun e => ?_), h1.block i hi hne]
  rcases hr i e.symm with h | h
  · omega
  · exact hne (by rw [h])
theorem putL_len : ∀ (vs xs : List Value) (o : Nat), (putL xs o vs).length = xs.length
  | [], xs, o => rfl
  | v :: r, xs, o => by rw [putL, putL_len r, List.length_set]
/-- What stood from i on, one place further, and one number at i. -/
theorem putL_ins (cs : List Value) (u v : Value) {i : Nat} (hi : i ≤ cs.length) : putL (putL (cs ++ [u]) (i + 1) (cs.drop i)) i [v] = cs.take i ++ [v] ++ cs.drop i := by
  have h1 : putL (cs ++ [u]) (i + 1) (cs.drop i) = (cs ++ [u]).take (i + 1) ++ cs.drop i := by
    rw [putL_eq _ _ _ (by simp; omega), List.drop_of_length_le (l := cs ++ [u]) (by simp; omega), List.append_nil]
  have hl : ((cs ++ [u]).take (i + 1)).length = i + 1 := by simp; omega
  rw [h1, putL_eq _ _ _ (by rw [List.length_append, hl]; simp <;> omega)]
  rw [List.take_append_of_le_length (by omega), List.take_take, Nat.min_eq_left (by omega), List.take_append_of_le_length hi]
  congr 1
  rw [List.drop_append_of_le_length (by rw [hl]; simp), List.drop_of_length_le (by rw [hl]; simp), List.nil_append]
theorem putL_new (cs : List Value) (zs : List Value) (v : Value) {i : Nat} (hi : i ≤ cs.length) (hz : zs.length = cs.length + 1 - i) : putL (putL (cs.take i ++ zs) i [v]) (i + 1) (cs.drop i) = cs.take i ++ [v] ++ cs.drop i := by
  have hl : (cs.take i).length = i := by simp; omega
  have h1 : putL (cs.take i ++ zs) i [v] = cs.take i ++ [v] ++ zs.drop 1 := by
    rw [putL_eq _ _ _ (by rw [List.length_append, hl]; simp; omega), List.take_append_of_le_length (by omega), List.take_of_length_le (by omega), List.drop_append, List.drop_of_length_le (by rw [hl]; simp), List.nil_append, hl]
    congr 2
    simp
  rw [h1, putL_eq _ _ _ (by simp; omega)]
  have h2 : (cs.take i ++ [v]).length = i + 1 := by rw [List.length_append, hl]; rfl
  rw [List.take_append_of_le_length (by omega), List.take_of_length_le (by omega), List.drop_of_length_le (l := cs.take i ++ [v] ++ zs.drop 1) (by simp; omega), List.append_nil]

theorem row_grow {w : World} {B g n c : Nat} {e : TypeId} {cur : Array Value} {xs : List Value} (hx : xs.length = n) (hB : B ≤ g) (hg : w.heap[g]? = some (.cells cur e (0, 0))) (hs : cur.size = c) (ht : cur.toList.take n = xs) (hc : n + 1 ≤ c) (hm : c ≤ maxLen) :
    ∃ u, w.ownsRow B e 1 (.slice (some ⟨g, 0, none⟩) (n + 1) c) (n + 1) (xs ++ [u]) := by
  refine ⟨cur.toList[n]'(by simp; omega), by simp [hx], .inr ⟨g, c, cur, rfl, hB, hg, hc, hm, by omega, ?_⟩⟩
  rw [Nat.mul_one, List.take_add_one, ht, List.getElem?_eq_getElem (by simp; omega)]
  rfl
theorem row_new {w : World} {B n c : Nat} {e : TypeId} {cur : Array Value} (hB : B ≤ w.heap.size) (hs : cur.size = c) (hc : n ≤ c) (hm : c ≤ maxLen) : (w.alloc (.cells cur e)).ownsRow B e 1 (.slice (some ⟨w.heap.size, 0, none⟩) n c) n (cur.toList.take n) := by
  refine ⟨by simp; omega, .inr ⟨w.heap.size, c, cur, rfl, hB, heap_alloc_new _ _, hc, hm, by omega, by rw [Nat.mul_one]⟩⟩

set_option maxHeartbeats 4000000 in
theorem f_Insert (g n c i vb vc B : Nat) (x : Int) (l : List Int) (w : World) (h : OwnI w B (.slice (some ⟨g, 0, none⟩) n c) l) (hn : n ≤ 1000) (h0 : 0 < n) (hi : i ≤ n) (hB : B ≤ w.heap.size) (hv : w.heap[vb]? = some (.cells #[.int .i64 x] 3 (0, 0))) (hvg : vb ≠ g) :
    Calls Try.prog 48 #[.slice (some ⟨g, 0, none⟩) n c, .int .i64 i, .slice (some ⟨vb, 0, none⟩) 1 vc] w fun e w' => ∃ g' c', e = .returned (.slice (some ⟨g', 0, none⟩) (n + 1) c') ∧ OwnI w' B (.slice (some ⟨g', 0, none⟩) (n + 1) c') (l.take i ++ [x] ++ l.drop i) ∧ w.grownBy w' (some g) := by
  have hl := h.len
  have hgz := (h.lt g rfl).2
  obtain ⟨cur, hBg, hg, hnc, hm, hs, ht⟩ : ∃ cur : Array Value, B ≤ g ∧ w.heap[g]? = some (.cells cur 3 (0, 0)) ∧ n ≤ c ∧ c ≤ maxLen ∧ cur.size = c ∧ cur.toList.take n = l.map (Value.int .i64) := by
    rcases h.row.2 with ⟨h1, -⟩ | ⟨g', cap, cur, h1, hB, hg, hnc, hm, hs, ht⟩
    · simp at h1
    · simp only [Value.slice.injEq, Option.some.injEq, Addr.mk.injEq, and_true] at h1
      obtain ⟨rfl, -, rfl⟩ := h1
      exact ⟨cur, hB, hg, hnc, hm, by omega, by rw [← ht, Nat.mul_one]⟩
  obtain ⟨cs, hcs⟩ : ∃ cs, l.map (Value.int .i64) = cs := ⟨_, rfl⟩
  have hcl : cs.length = n := by rw [← hcs, List.length_map, hl]
  rw [hcs] at ht
  have hfin : cs.take i ++ [Value.int .i64 x] ++ cs.drop i = (l.take i ++ [x] ++ l.drop i).map (Value.int .i64) := by
    rw [← hcs]
    simp [List.map_take, List.map_drop]
  have h1c : ∀ v ∈ cs, v.oneCell' = true := by
    intro v hv
    rw [← hcs] at hv
    obtain ⟨y, -, rfl⟩ := List.mem_map.1 hv
    rfl
  have h1v : ∀ v ∈ [Value.int .i64 x], v.oneCell' = true := by
    intro v hv
    obtain rfl := List.mem_singleton.1 hv
    rfl
  have hcell : ∀ j v, cs[j]? = some v → w.cell? ⟨g, 0 + j, none⟩ = some v := by
    intro j v hj
    have hjn : j < n := by rw [← hcl]; exact (List.getElem?_eq_some_iff.1 hj).1
    rw [Nat.zero_add, cell_of_row w _ _ _ _ (0, 0) hg, ← hj, ← ht, List.getElem?_take_of_lt hjn, Array.getElem?_toList]
  have hvs : ∀ j v, [Value.int .i64 x][j]? = some v → w.cell? ⟨vb, 0 + j, none⟩ = some v := by
    intro j v hj
    rw [Nat.zero_add, cell_of_row w _ _ _ _ (0, 0) hv, ← hj]
    show ([Value.int .i64 x].toArray)[j]? = _
    simp
  have hc63 : c ≤ 9223372036854775807 := by unfold maxLen at hm; omega
  by_cases hroom : n + 1 ≤ c
  · obtain ⟨u, hrow⟩ := row_grow hcl hBg hg hs ht hroom hm
    by_cases hin : i < n
    · refine (Any2.slices_Insert_int_shift insLays g 0 n c i vb 0 1 vc cs [.int .i64 x] w hin (by omega) hroom hc63 hvg hcl rfl hcell (fun j hj => ?_) (fun j hj => by rw [Nat.zero_add]; exact frozen_of_row w g j _ _ hg) hvs h1c h1v 3 3 1 c (by simp [World.shape?, hv]) (by simp [World.shape?, hg, hs]) (by omega) (frozen_of_row w vb 0 _ _ hv) (frozen_of_row w vb 1 _ _ hv)).mono ?_
      · rw [Nat.zero_add, cell_of_row w _ _ _ _ (0, 0) hg, Array.getElem?_eq_getElem (by omega)]
        rfl
      · rintro e w' ⟨rfl, rfl⟩
        rw [Nat.zero_add, Nat.zero_add]
        obtain ⟨a1, a2⟩ := own_setCells (cs.drop i) (i + 1) w.drew _ (World.ownsRow.drew hrow)
        obtain ⟨a3, a4⟩ := own_setCells [.int .i64 x] i _ _ a1
        rw [putL_ins cs u _ (by omega), hfin] at a3
        exact ⟨g, c, rfl, OwnI.of_row a3, grownBy_trans (grownBy_trans (grown_of_below ((Below.refl _ _).drew) _) a2) a4⟩
    · obtain rfl : i = n := by omega
      refine (Any2.slices_Insert_int_end_room insLays g 0 i c vb 0 1 vc [.int .i64 x] w (by omega) hroom hc63 rfl (fun j hj => ?_) (fun j hj => by exact frozen_of_row w g _ _ _ hg) hvs h1v).mono ?_
      · rw [Nat.zero_add, cell_of_row w _ _ _ _ (0, 0) hg, Array.getElem?_eq_getElem (by omega)]
        rfl
      · rintro e w' ⟨rfl, rfl⟩
        rw [Nat.zero_add]
        obtain ⟨a1, a2⟩ := own_setCells [.int .i64 x] i w _ hrow
        rw [putL_eq _ _ _ (by simp; omega), List.take_append_of_le_length (by omega), List.drop_of_length_le (by simp; omega), List.append_nil] at a1
        have e1 : cs.take i ++ [Value.int .i64 x] = (l.take i ++ [x] ++ l.drop i).map (Value.int .i64) := by
          rw [← hfin, List.drop_of_length_le (by omega), List.append_nil]
        rw [e1] at a1
        exact ⟨g, c, rfl, OwnI.of_row a1, a2⟩
  · obtain rfl : n = c := by omega
    have hG1 := grownCap_ge w (n + 1) n 3
    have hG2 := grownCap_le_maxLen w (n + 1) n 3 (by unfold maxLen; omega)
    by_cases hin : i < n
    · refine (Any2.slices_Insert_int_grow insLays g 0 n n i vb 0 1 vc cs [.int .i64 x] w hin (by omega) (Nat.le_refl _) (by omega) (by omega) hcl rfl hcell hvs h1c h1v).mono ?_
      rintro e w' ⟨rfl, rfl⟩
      have a0 := row_new (w := w) (B := B) (n := n + 1) (e := 3) (cur := (cs.take i).toArray ++ Builtin.zeroCells (Value.int .i64 0).cells (n + 1 - i) ++ Builtin.zeroCells (Value.int .i64 0).cells (grownCap w (n + 1) n 3 - (n + 1))) hB (by simp [Builtin.zeroCells, Value.cells]; omega) hG1 hG2
      have ez : (((cs.take i).toArray ++ Builtin.zeroCells (Value.int .i64 0).cells (n + 1 - i) ++ Builtin.zeroCells (Value.int .i64 0).cells (grownCap w (n + 1) n 3 - (n + 1))).toList.take (n + 1)) = cs.take i ++ (Builtin.zeroCells (Value.int .i64 0).cells (n + 1 - i)).toList := by
        rw [Array.toList_append, List.take_append_of_le_length (by simp [Builtin.zeroCells, Value.cells]; omega), List.take_of_length_le (by simp [Builtin.zeroCells, Value.cells]; omega)]
        simp
      rw [ez] at a0
      obtain ⟨a1, a2⟩ := own_setCells [.int .i64 x] i _ _ (World.ownsRow.drew a0)
      obtain ⟨a3, a4⟩ := own_setCells (cs.drop i) (i + 1) _ _ (World.ownsRow.drew a1)
      rw [putL_new cs _ _ (by omega) (by simp [Builtin.zeroCells, Value.cells]; omega), hfin] at a3
      refine ⟨w.heap.size, _, rfl, OwnI.of_row a3, ?_⟩
      exact ins_step (ins_step (ins_step (ins_step (grown_of_below ((Below.refl _ _).alloc (Nat.le_refl _) _) _) (grown_of_below ((Below.refl _ _).drew) none) (fun k e => by cases e)) a2 (fun k e => by cases e; exact .inl (Nat.le_refl _))) (grown_of_below ((Below.refl _ _).drew) none) (fun k e => by cases e)) a4 (fun k e => by cases e; exact .inl (Nat.le_refl _))
    · obtain rfl : i = n := by omega
      refine (Any2.slices_Insert_int_end_grow insLays (some ⟨g, 0, none⟩) i i vb 0 1 vc cs [.int .i64 x] w (by omega) (Nat.le_refl _) (by omega) (by omega) hcl rfl (fun e => by cases e) (fun a ha j v hj => by cases ha; rw [Addr.add_lit]; exact hcell j v hj) hvs h1v).mono ?_
      rintro e w' ⟨rfl, rfl⟩
      have a0 := row_new (w := w.drew) (B := B) (n := i + 1) (e := 3) (cur := (cs ++ [Value.int .i64 x]).toArray ++ Builtin.zeroCells (Value.int .i64 0).cells (grownCap w (i + 1) i 3 - (i + 1))) hB (by simp [Builtin.zeroCells, Value.cells]; omega) hG1 hG2
      have ez : (((cs ++ [Value.int .i64 x]).toArray ++ Builtin.zeroCells (Value.int .i64 0).cells (grownCap w (i + 1) i 3 - (i + 1))).toList.take (i + 1)) = (l.take i ++ [x] ++ l.drop i).map (Value.int .i64) := by
        rw [Array.toList_append, List.take_append_of_le_length (by simp; omega), List.take_of_length_le (by simp; omega), ← hfin, List.take_of_length_le (by omega), List.drop_of_length_le (by omega), List.append_nil]
      rw [ez] at a0
      exact ⟨w.heap.size, _, rfl, OwnI.of_row a0, ins_step (grown_of_below ((Below.refl _ _).drew) _) (grown_of_below ((Below.refl _ _).alloc (Nat.le_refl _) _) none) (fun k e => by cases e)⟩

end Go.Proofs.Ytikjighlnpdgiaa

/-
  RemovePipe, where the pipe is there.
-/
set_option linter.unusedVariables false
set_option linter.unusedSimpArgs false
namespace Go.Proofs.Ytikjighlnpdgiaa
open Go.RowKit

theorem ownQ_some {w : World} {B n c : Nat} {a : Option Addr} {l : List Pip} (h : OwnQ w B (.slice a n c) l) (hn : 0 < n) : ∃ g, a = some ⟨g, 0, none⟩ ∧ B ≤ g ∧ g < w.heap.size := by
  have hlt := OwnS.lt h
  have hl := OwnS.len h
  rcases h.2 with ⟨h1, h0⟩ | ⟨g, cap, cur, h1, hB, hg, hnc, hm, hs, ht⟩
  · simp only [Value.slice.injEq] at h1
    omega
  · simp only [Value.slice.injEq] at h1
    obtain ⟨rfl, -, -⟩ := h1
    exact ⟨g, rfl, hB, (hlt g rfl).2⟩

theorem i_hasPipeR (N x : Int) (a : Option Addr) (n c : Nat) (l : List Pip) (w : World) (h : QAt w a n l) (hn : n ≤ 1048576) :
    Calls Try.prog 100 #[.agg #[.int .i64 N, .slice a n c], .int .i64 x] w fun e w' => e = .returned (.bool (goodNet N l && decide (0 ≤ findQ l x))) ∧ Below w.heap.size w w' := by
  have H := hid h
  clear h
  cases h1 : goodNet N l
  · have HG := hid h1
    clear h1
    go_enter Try.func100, Try.ntmps100
    go_wp2_with fail
    refine (i_IsValidNetwork N _ _ _ l _ (H.out.below (by go_grown)) (by omega)).mono ?_
    rintro e w1 ⟨rfl, hb1⟩
    rw [HG.out]
    obtain ⟨hc_w1, hf_w1⟩ := bcell hb1
    have hz_w1_0 : w.heap.size < w1.heap.size := by have := hb1.size; simp only [World.size_alloc] at this; omega
    have HB1 := hid (bstep (by go_grown) hb1 : Below w.heap.size w w1)
    go_wp2
    go_ret
    exact ⟨rfl, HB1.out⟩
  · have HG := hid h1
    clear h1
    go_enter Try.func100, Try.ntmps100
    go_wp2_with fail
    refine (i_IsValidNetwork N _ _ _ l _ (H.out.below (by go_grown)) (by omega)).mono ?_
    rintro e w1 ⟨rfl, hb1⟩
    rw [HG.out]
    obtain ⟨hc_w1, hf_w1⟩ := bcell hb1
    have hz_w1_0 : w.heap.size < w1.heap.size := by have := hb1.size; simp only [World.size_alloc] at this; omega
    have HB1 := hid (bstep (by go_grown) hb1 : Below w.heap.size w w1)
    go_wp2_with fail
    refine (i_pipeIndex N x _ _ _ l _ (H.out.below HB1.out) hn).mono ?_
    rintro e w2 ⟨rfl, hb2⟩
    go_wp2
    go_ret
    exact ⟨rfl, bstep HB1.out hb2⟩

set_option maxRecDepth 100000 in
set_option maxHeartbeats 4000000 in
theorem i_RemovePipe (M k : Nat) (id : Int) (a : Option Addr) (n c : Nat) (l : List Pip) (w : World) (h : QAt w a n l) (hg : goodNet M l = true) (hk : findQ l id = k) (hkn : k < n) :
    Calls Try.prog 71 #[.agg #[.int .i64 M, .slice a n c], .int .i64 id] w fun e w' => ∃ a' c', e = .returned (.tuple #[.agg #[.int .i64 M, .slice a' (n - 1) c'], .bool true]) ∧ OwnQ w' w.heap.size (.slice a' (n - 1) c') (l.eraseIdx k) ∧ Below w.heap.size w w' := by
  obtain ⟨i0, hi, hz0, hz1', hz2⟩ := info_parts Try.infoPipe
  have HI := hid hi
  have HZ := hid hz0
  have HZ1 := hid hz1'
  have HZ2 := hid hz2
  clear hi hz0 hz1' hz2
  have hn : n ≤ 10 := by have := (goodNet_get hg).2.1; have := h.1; omega
  have HLN := hid h.1
  have H := hid h
  have HG := hid hg
  have H2 := hid (show (goodNet M l && decide (0 ≤ findQ l id)) = true by rw [hk, hg]; simp)
  have HK := hid hk
  obtain ⟨J, hJ⟩ : ∃ J, J = k + 1 := ⟨_, rfl⟩
  have hw : IntKind.i64.wrap ((k : Int) + 1) = (J : Int) := by rw [IntWalk.i64_in _ (by omega)]; omega
  have HJ := hid hJ
  clear h hg hk hJ
  go_enter Try.func71, Try.ntmps71
  go_upto_region 1 with fail
  have BA0 : Below w.heap.size w ((w.alloc (.cells #[.int .i64 M, .slice a (n) (c)] 31)).alloc (.cells #[.int .i64 0, .slice none 0 0] 31)) := by go_grown
  have ZA0 : ((w.alloc (.cells #[.int .i64 M, .slice a (n) (c)] 31)).alloc (.cells #[.int .i64 0, .slice none 0 0] 31)).heap.size = w.heap.size + 2 := by simp
  have TB0 : ((w.alloc (.cells #[.int .i64 M, .slice a (n) (c)] 31)).alloc (.cells #[.int .i64 0, .slice none 0 0] 31)).heap[w.heap.size + 1]? = some (.cells #[.int .i64 0, .slice none 0 0] 31 (0, 0)) := last_new _ _ _ (by simp)
  have TA0 : ((w.alloc (.cells #[.int .i64 M, .slice a (n) (c)] 31)).alloc (.cells #[.int .i64 0, .slice none 0 0] 31)).heap[w.heap.size]? = some (.cells #[.int .i64 M, .slice a (n) (c)] 31 (0, 0)) := mid_new _ _ _ _ rfl
  generalize (w.alloc (.cells #[.int .i64 M, .slice a (n) (c)] 31)).alloc (.cells #[.int .i64 0, .slice none 0 0] 31) = wA at *
  have BA := hid BA0
  have ZA := hid ZA0
  have TA := hid TA0
  have TB := hid TB0
  have KA := hid (show ∀ wx, Below wA.heap.size wA wx → (wx.cell? ⟨w.heap.size, 0, none⟩ = some (.int .i64 M) ∧ wx.cell? ⟨w.heap.size, 1, none⟩ = some (.slice a (n) (c))) from fun wx hb => ⟨by rw [hb.cell (p := ⟨w.heap.size, 0, none⟩) (by show w.heap.size < _; omega), cell_of_row wA _ _ _ _ (0, 0) TA0]; rfl, by rw [hb.cell (p := ⟨w.heap.size, 1, none⟩) (by show w.heap.size < _; omega), cell_of_row wA _ _ _ _ (0, 0) TA0]; rfl⟩)
  have n0 : wA.cell? ⟨w.heap.size, 0, none⟩ = some (.int .i64 M) := by rw [cell_of_row wA _ _ _ _ (0, 0) TA0]; rfl
  have n1 : wA.cell? ⟨w.heap.size, 1, none⟩ = some (.slice a (n) (c)) := by rw [cell_of_row wA _ _ _ _ (0, 0) TA0]; rfl
  have hzA : w.heap.size < wA.heap.size := by omega
  clear BA0 ZA0 TA0 TB0
  go_wp2_with fail
  refine (i_hasPipeR M id _ _ _ l _ (H.out.below BA.out) (by omega)).mono ?_
  rintro e w1 ⟨rfl, hb1⟩
  rw [H2.out]
  have HB1 := hid hb1
  clear n0 n1
  obtain ⟨n0, n1⟩ := KA.out _ hb1
  have hz1 : w.heap.size < w1.heap.size := World.block_lt_of_cell? w1 _ n0
  clear hb1
  go_wp2_with fail
  refine (i_pipeIndex M id _ _ _ l _ (H.out.below (bstep BA.out HB1.out)) (by omega)).mono ?_
  rintro e wR ⟨rfl, hbR⟩
  rw [HK.out]
  have HBR := hid (bstep HB1.out hbR)
  have BR := hid (bstep BA.out (bstep HB1.out hbR))
  have ZR := hid (show w.heap.size + 2 ≤ wR.heap.size from by have := HB1.out.size; have := hbR.size; have := ZA.out; omega)
  have TR := hid (((bstep HB1.out hbR).block (w.heap.size + 1) (by have := ZA.out; omega)).trans TB.out)
  have KR := hid (fun wx (hb : Below wR.heap.size wR wx) => KA.out wx (bstep (bstep HB1.out hbR) hb))
  clear n0 n1 hbR hz1
  obtain ⟨n0, n1⟩ := KR.out _ (Below.refl _ _)
  have hzR : w.heap.size < wR.heap.size := by have := ZR.out; omega
  go_upto_region 4 with fail
  go_region_held3 (fun w' => (w'.cell? ⟨w.heap.size, 0, none⟩ = some (.int .i64 M) ∧ w'.cell? ⟨w.heap.size, 1, none⟩ = some (.slice a n c))) (first | go_keep | exact KR.out _ (by first | assumption | go_grown))
    (first
      | (refine step_append_q (by rfl) _ _ (by rfl) (wR.heap.size) _ [] (by rfl) (by exact ((OwnS.lit0' rfl).drew')) _ n _ l (by rfl) (by exact H.out.below (bstep BR.out (by go_grown))) n (by simp) (by omega) (by simp) ?_; intro a4 c4 w4 h4 g4 b4; have hb4 : Below wR.heap.size wR w4 := Below.grown (by go_grown) g4 (by simp <;> omega) (fun q hq => by cases hq; exact Nat.le_refl _); obtain ⟨g5, rfl, hg51, hg52⟩ := ownQ_some h4 (by omega))
      | (go_at_call 47; refine (f_DeletePipe g5 n c4 k J _ ([] ++ l) _ h4 (by omega) hkn HJ.out).mono ?_; rintro e w11 ⟨rfl, h11, g11⟩; have hb11 : Below wR.heap.size wR w11 := hb4.grown g11 hb4.size (fun q hq => by cases hq; exact hg51); have y0 : w11.cell? ⟨w.heap.size + 1, 0, none⟩ = some (.int .i64 0) := (by rw [hb11.cell (p := ⟨w.heap.size + 1, 0, none⟩) (by show w.heap.size + 1 < _; have := ZR.out; omega), cell_of_row wR _ _ _ _ (0, 0) TR.out] <;> rfl); have y1 : w11.cell? ⟨w.heap.size + 1, 1, none⟩ = some (.slice none 0 0) := (by rw [hb11.cell (p := ⟨w.heap.size + 1, 1, none⟩) (by show w.heap.size + 1 < _; have := ZR.out; omega), cell_of_row wR _ _ _ _ (0, 0) TR.out] <;> rfl); have f0 : w11.frozen? ⟨w.heap.size + 1, 0, none⟩ = false := (hb11.frozen (p := ⟨w.heap.size + 1, 0, none⟩) (by show w.heap.size + 1 < _; have := ZR.out; omega)).trans (frozen_of_row wR _ 0 _ _ TR.out); have f1 : w11.frozen? ⟨w.heap.size + 1, 1, none⟩ = false := (hb11.frozen (p := ⟨w.heap.size + 1, 1, none⟩) (by show w.heap.size + 1 < _; have := ZR.out; omega)).trans (frozen_of_row wR _ 1 _ _ TR.out); have z1 : w.heap.size + 1 < w11.heap.size := (by have := hb11.size; have := ZR.out; omega)))
  have T11 : w11.heap[w.heap.size + 1]? = some (.cells #[.int .i64 0, .slice none 0 0] 31 (0, 0)) := (hb11.block (w.heap.size + 1) (by have := ZR.out; omega)).trans TR.out
  have e7 := heap_setCell_same _ _ 1 _ _ (.slice (some ⟨g5, 0, none⟩) (n - 1) c4) (heap_setCell_same _ _ 0 _ _ (.int .i64 M) T11)
  have u0 := cell_of_row _ _ 0 _ _ (0, 0) e7
  have u1 := cell_of_row _ _ 1 _ _ (0, 0) e7
  simp only [List.setIfInBounds_toArray, List.set_cons_zero, List.set_cons_succ, List.getElem?_toArray, List.getElem?_cons_zero, List.getElem?_cons_succ] at u0 u1
  rw [List.nil_append] at h11
  have HO := hid h11
  have HB := hid hb11
  clear g4 b4 g11 y0 y1 f0 f1 e7 T11 h4 hb4 h11 hb11
  go_wp2
  refine bodyPost_ret (v := .tuple #[.agg #[.int .i64 M, .slice (some ⟨g5, 0, none⟩) (n - 1) c4], .bool true]) (by simp [results, Try.results71, go_sem, *]) rfl ⟨_, _, rfl, ?_, ?_⟩
  · exact ((HO.out.far (by have := ZR.out; omega)).far (by have := ZR.out; omega)).mono (by have := ZR.out; omega)
  · exact ((bstep BR.out HB.out).setCell (by show w.heap.size ≤ w.heap.size + 1; omega) _).setCell (by show w.heap.size ≤ w.heap.size + 1; omega) _

end Go.Proofs.Ytikjighlnpdgiaa

/-
  Networks: whether a node is there.
-/
set_option linter.unusedVariables false
set_option linter.unusedSimpArgs false
namespace Go.Proofs.Ytikjighlnpdgiaa
open Go.RowKit

theorem i_hasNode (N x : Int) (a : Option Addr) (n c : Nat) (l : List Pip) (w : World) (h : QAt w a n l) (hn : n ≤ 1048576) :
    Calls Try.prog 94 #[.agg #[.int .i64 N, .slice a n c], .int .i64 x] w fun e w' => e = .returned (.bool (goodNet N l && inR x 1 N)) ∧ Below w.heap.size w w' := by
  have H := hid h
  clear h
  cases h1 : goodNet N l
  · have HG := hid h1
    clear h1
    go_enter Try.func94, Try.ntmps94
    go_wp2_with fail
    refine (i_IsValidNetwork N _ _ _ l _ (H.out.below (by go_grown)) (by omega)).mono ?_
    rintro e w1 ⟨rfl, hb1⟩
    rw [HG.out]
    obtain ⟨hc_w1, hf_w1⟩ := bcell hb1
    have hz_w1_0 : w.heap.size < w1.heap.size := by have := hb1.size; simp only [World.size_alloc] at this; omega
    have HB1 := hid (bstep (by go_grown) hb1 : Below w.heap.size w w1)
    go_wp2
    go_ret
    exact ⟨rfl, HB1.out⟩
  · have HG := hid h1
    clear h1
    go_enter Try.func94, Try.ntmps94
    go_wp2_with fail
    refine (i_IsValidNetwork N _ _ _ l _ (H.out.below (by go_grown)) (by omega)).mono ?_
    rintro e w1 ⟨rfl, hb1⟩
    rw [HG.out]
    obtain ⟨hc_w1, hf_w1⟩ := bcell hb1
    have hz_w1_0 : w.heap.size < w1.heap.size := by have := hb1.size; simp only [World.size_alloc] at this; omega
    have HB1 := hid (bstep (by go_grown) hb1 : Below w.heap.size w w1)
    go_wp2_with fail
    refine (i_has N x _ _ _ _).mono ?_
    rintro e w2 ⟨rfl, hb2⟩
    go_wp2
    go_ret
    exact ⟨rfl, bstep HB1.out hb2⟩
theorem s_l2Node (N x : Int) (a : Option Addr) (n c : Nat) (l : List Pip) (w : World) (h : QAt w a n l) (hn : n ≤ 1048576) :
    Calls Try.prog 30 #[.agg #[.int .i64 N, .slice a n c], .int .i64 x] w fun e w' => e = .returned (.bool (goodNet N l && inR x 1 N)) ∧ Below w.heap.size w w' := by
  have H := hid h
  clear h
  cases h1 : goodNet N l
  · have HG := hid h1
    clear h1
    go_enter Try.func30, Try.ntmps30
    go_wp2_with fail
    refine (s_l2Good N _ _ _ l _ (H.out.below (by go_grown)) (by omega)).mono ?_
    rintro e w1 ⟨rfl, hb1⟩
    rw [HG.out]
    obtain ⟨hc_w1, hf_w1⟩ := bcell hb1
    have hz_w1_0 : w.heap.size < w1.heap.size := by have := hb1.size; simp only [World.size_alloc] at this; omega
    have HB1 := hid (bstep (by go_grown) hb1 : Below w.heap.size w w1)
    go_wp2
    go_ret
    exact ⟨rfl, HB1.out⟩
  · have HG := hid h1
    clear h1
    go_enter Try.func30, Try.ntmps30
    go_wp2_with fail
    refine (s_l2Good N _ _ _ l _ (H.out.below (by go_grown)) (by omega)).mono ?_
    rintro e w1 ⟨rfl, hb1⟩
    rw [HG.out]
    obtain ⟨hc_w1, hf_w1⟩ := bcell hb1
    have hz_w1_0 : w.heap.size < w1.heap.size := by have := hb1.size; simp only [World.size_alloc] at this; omega
    have HB1 := hid (bstep (by go_grown) hb1 : Below w.heap.size w w1)
    go_wp2_with fail
    refine (s_l1In _ _ _ _).mono ?_
    rintro e _ ⟨rfl, rfl⟩
    go_wp2
    go_ret
    exact ⟨rfl, HB1.out⟩

end Go.Proofs.Ytikjighlnpdgiaa

