/-
  The reference's steps, in plain lists: level by level.
-/
import Derived.Test.YthhogblnndmenaaWayA
set_option linter.unusedVariables false
set_option linter.unusedSimpArgs false
namespace Go.Proofs.Ythhogblnndmenaa
open Go.RowKit

/-- A pipe joins a node with one of a level. -/
def HitP (l : List Pip) (f : Int → Int) (st : Nat) (v : Int) (j : Nat) : Prop := (v = (pp l j).2.1 ∧ f (pp l j).2.2.1 = st) ∨ (v = (pp l j).2.2.1 ∧ f (pp l j).2.1 = st)
/-- What the row holds at a node within a level. -/
noncomputable def lev (l : List Pip) (f : Int → Int) (st i : Nat) (v : Int) : Int := by
  classical
  exact if 0 ≤ f v ∧ f v ≤ st then f v else if f v = st + 1 ∧ ∃ j, j < i ∧ HitP l f st v j then st + 1 else -1
theorem lev_in {l : List Pip} {f : Int → Int} {st i : Nat} {v : Int} (h : 0 ≤ f v ∧ f v ≤ st) : lev l f st i v = f v := by unfold lev; rw [if_pos h]
theorem lev_hit {l : List Pip} {f : Int → Int} {st i : Nat} {v : Int} (h1 : f v = st + 1) (h2 : ∃ j, j < i ∧ HitP l f st v j) : lev l f st i v = st + 1 := by
  unfold lev
  rw [if_neg (by omega), if_pos ⟨h1, h2⟩]
theorem lev_out {l : List Pip} {f : Int → Int} {st i : Nat} {v : Int} (h1 : ¬ (0 ≤ f v ∧ f v ≤ st)) (h2 : ¬ (f v = st + 1 ∧ ∃ j, j < i ∧ HitP l f st v j)) : lev l f st i v = -1 := by
  unfold lev
  rw [if_neg h1, if_neg h2]
theorem lev_eq_st {l : List Pip} {f : Int → Int} {st i : Nat} {v : Int} : lev l f st i v = st ↔ f v = st := by
  by_cases h1 : 0 ≤ f v ∧ f v ≤ st
  · rw [lev_in h1]
  · by_cases h2 : f v = st + 1 ∧ ∃ j, j < i ∧ HitP l f st v j
    · rw [lev_hit h2.1 h2.2]; omega
    · rw [lev_out h1 h2]; omega
theorem lev_same {l : List Pip} {f : Int → Int} {st i : Nat} {v : Int} (h : f v = st + 1 → HitP l f st v i → ∃ j, j < i ∧ HitP l f st v j) : lev l f st (i + 1) v = lev l f st i v := by
  by_cases h1 : 0 ≤ f v ∧ f v ≤ st
  · rw [lev_in h1, lev_in h1]
  · by_cases h2 : f v = st + 1 ∧ ∃ j, j < i ∧ HitP l f st v j
    · obtain ⟨a, j, b, c⟩ := h2
      rw [lev_hit a ⟨j, b, c⟩, lev_hit a ⟨j, by omega, c⟩]
    · rw [lev_out h1 h2, lev_out h1]
      rintro ⟨a, j, b, c⟩
      apply h2
      by_cases e : j = i
      · subst e; exact ⟨a, h a c⟩
      · exact ⟨a, j, by omega, c⟩

structure Row (M : Nat) (l : List Pip) (f : Int → Int) (st i : Nat) (L : List Int) : Prop where
  len : L.length = M + 1
  zero : L[0]?.getD 0 = -1
  at' : ∀ v : Nat, 1 ≤ v → v ≤ M → L[v]?.getD 0 = lev l f st i v
theorem Row.no {M : Nat} {l : List Pip} {f : Int → Int} {st i : Nat} {L : List Int} (h : Row M l f st i L) {a b : Nat} (ha : (pp l i).2.1 = a) (hb : (pp l i).2.2.1 = b) (ha1 : 1 ≤ a ∧ a ≤ M) (hb1 : 1 ≤ b ∧ b ≤ M)
    (h1 : L[a]?.getD 0 = st → ¬ L[b]?.getD 0 < 0) (h2 : L[b]?.getD 0 = st → ¬ L[a]?.getD 0 < 0) : Row M l f st (i + 1) L := by
  refine ⟨h.len, h.zero, fun v hv1 hv2 => ?_⟩
  rw [h.at' v hv1 hv2]
  symm
  apply lev_same
  intro hf hp
  apply Classical.byContradiction
  intro hn
  have hout : lev l f st i v = -1 := lev_out (by omega) (fun e => hn e.2)
  rw [h.at' a ha1.1 ha1.2, h.at' b hb1.1 hb1.2, lev_eq_st] at h1
  rw [h.at' a ha1.1 ha1.2, h.at' b hb1.1 hb1.2, lev_eq_st] at h2
  rcases hp with ⟨e1, e2⟩ | ⟨e1, e2⟩
  · rw [ha] at e1
    rw [hb] at e2
    have := h2 e2
    rw [← e1, hout] at this
    omega
  · rw [hb] at e1
    rw [ha] at e2
    have := h1 e2
    rw [← e1, hout] at this
    omega
theorem Row.yes {M : Nat} {l : List Pip} {t : Int} {st i : Nat} {L : List Int} (hg : goodNet M l = true) (h : Row M l (far l 0 t) st i L) {x y : Nat} (hx1 : 1 ≤ x ∧ x ≤ M) (hy1 : 1 ≤ y ∧ y ≤ M) (he : Edge l 0 x y) (hp : HitP l (far l 0 t) st y i) (hxy : ∀ v : Int, HitP l (far l 0 t) st v i → v = y)
    (h1 : L[x]?.getD 0 = st) (h2 : L[y]?.getD 0 < 0) : Row M l (far l 0 t) st (i + 1) (L.set y ((st : Int) + 1)) := by
  rw [h.at' x hx1.1 hx1.2, lev_eq_st] at h1
  rw [h.at' y hy1.1 hy1.2] at h2
  have hs := (far_is (wo := 0) (s := t) hg).step x y he (by omega)
  have hfy : far l 0 t y = st + 1 := by
    apply Classical.byContradiction
    intro hn
    rw [lev_in (by omega)] at h2
    omega
  refine ⟨by rw [List.length_set]; exact h.len, by rw [List.getElem?_set_ne (by omega)]; exact h.zero, fun v hv1 hv2 => ?_⟩
  by_cases e : v = y
  · subst e
    rw [List.getElem?_set_self (by rw [h.len]; omega), lev_hit hfy ⟨i, by omega, hp⟩]
    rfl
  · rw [List.getElem?_set_ne (by omega), h.at' v hv1 hv2]
    symm
    apply lev_same
    intro _ hp2
    have := hxy v hp2
    omega
theorem Row.start {M : Nat} {l : List Pip} {t : Nat} {L : List Int} (hg : goodNet M l = true) (ht : 1 ≤ t ∧ t ≤ M) (hl : L.length = M + 1) (h : ∀ v : Nat, v ≤ M → L[v]?.getD 0 = -1) : Row M l (far l 0 t) 0 0 (L.set t 0) := by
  refine ⟨by rw [List.length_set]; exact hl, by rw [List.getElem?_set_ne (by omega)]; exact h 0 (by omega), fun v hv1 hv2 => ?_⟩
  by_cases e : v = t
  · subst e
    rw [List.getElem?_set_self (by omega), lev_in (by rw [far_self hg]; omega), far_self hg]
    rfl
  · rw [List.getElem?_set_ne (by omega), h v hv2, lev_out]
    · intro hc
      have := (far_is (wo := 0) (s := (t : Int)) hg).only v (by omega) (by omega) (by omega)
      omega
    · rintro ⟨-, j, hj, -⟩
      omega
theorem Row.next {M : Nat} {l : List Pip} {t : Int} {st : Nat} {L : List Int} (hg : goodNet M l = true) (h : Row M l (far l 0 t) st l.length L) : Row M l (far l 0 t) (st + 1) 0 L := by
  refine ⟨h.len, h.zero, fun v hv1 hv2 => ?_⟩
  rw [h.at' v hv1 hv2]
  by_cases h1 : 0 ≤ far l 0 t v ∧ far l 0 t v ≤ st
  · rw [lev_in h1, lev_in (by omega)]
  · by_cases h2 : far l 0 t v = st + 1
    · obtain ⟨u, ⟨k, hk, -, ho, hx⟩, hu⟩ := (far_is (wo := 0) (s := t) hg).back v (by omega) (by omega) (by omega)
      rw [lev_hit h2 ⟨k, hk, by
        rcases oth_ends ho hx with ⟨a, b⟩ | ⟨a, b⟩
        · right; exact ⟨b, by rw [← a]; omega⟩
        · left; exact ⟨b, by rw [← a]; omega⟩⟩, lev_in (by omega)]
      omega
    · rw [lev_out h1 (fun e => h2 e.1), lev_out (by omega)]
      rintro ⟨-, j, hj, -⟩
      omega
theorem Row.done {M : Nat} {l : List Pip} {t : Int} {L : List Int} (hg : goodNet M l = true) (ht : 1 ≤ t ∧ t ≤ M) (h : Row M l (far l 0 t) M 0 L) : L = distL M l 0 t := by
  have hd : (distL M l 0 t).length = M + 1 := by simp [distL]
  apply List.ext_getElem?
  intro v
  by_cases hv : v ≤ M
  · have e : L[v]?.getD 0 = (distL M l 0 t)[v]?.getD 0 := by
      by_cases h0 : v = 0
      · subst h0
        rw [h.zero, distL_zero]
      · rw [h.at' v (by omega) hv, distL_at (by omega) (by omega)]
        have hlt := far_lt (wo := 0) (v := (v : Int)) hg ht (by omega) (by omega)
        by_cases hf : 0 ≤ far l 0 t v
        · rw [lev_in (by omega)]
        · rw [lev_out (by omega) (by omega)]
          have := (far_is (wo := 0) (s := t) hg).low v (by omega) (by omega)
          omega
    rw [List.getElem?_eq_getElem (by rw [h.len]; omega), List.getElem?_eq_getElem (by omega)] at e ⊢
    simpa using e
  · rw [List.getElem?_eq_none (by rw [h.len]; omega), List.getElem?_eq_none (by omega)]

end Go.Proofs.Ythhogblnndmenaa
