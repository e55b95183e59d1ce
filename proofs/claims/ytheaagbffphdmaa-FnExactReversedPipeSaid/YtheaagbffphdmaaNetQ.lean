/-
  Networks: the search that labels nodes, round by round, in plain lists.
-/
import Derived.Test.YtheaagbffphdmaaNetR
set_option linter.unusedVariables false
set_option linter.unusedSimpArgs false
namespace Go.Proofs.Ytheaagbffphdmaa
open Go.RowKit

/-- A node's label. -/
def lab (f : List Int) (v : Int) : Int := f[v.toNat]?.getD 0
theorem lab_set {f : List Int} {N x v y : Int} (hl : f.length = N.toNat + 1) (hx : 0 ≤ x ∧ x ≤ N) (hv : 0 ≤ v) : lab (f.set x.toNat y) v = if v = x then y else lab f v := by
  unfold lab
  by_cases e : v = x
  · subst e
    rw [List.getElem?_set_self (by omega), if_pos rfl]
    rfl
  · rw [List.getElem?_set_ne (by omega), if_neg e]
/-- The first one that waits. -/
def hd (q : List Int) : Int := q[0]?.getD 0

/-- While the first waiting node is looked at: some pipes have been gone through. -/
structure Mid (N : Int) (l : List Pip) (wo s : Int) (f q : List Int) (k : Nat) : Prop where
  len : f.length = N.toNat + 1
  zero : lab f 0 = -1
  low : ∀ v, 1 ≤ v → v ≤ N → -1 ≤ lab f v
  self : lab f s = 0
  only : ∀ v, 1 ≤ v → v ≤ N → lab f v = 0 → v = s
  back : ∀ v, 1 ≤ v → v ≤ N → 0 < lab f v → ∃ u, Edge l wo u v ∧ lab f u = lab f v - 1
  ne : 0 < q.length
  qin : ∀ x ∈ q, (1 ≤ x ∧ x ≤ N) ∧ 0 ≤ lab f x
  sorted : ∀ i j, i ≤ j → j < q.length → lab f (q[i]?.getD 0) ≤ lab f (q[j]?.getD 0)
  top : ∀ v, 1 ≤ v → v ≤ N → lab f v ≤ lab f (hd q) + 1
  done : ∀ v, 1 ≤ v → v ≤ N → 0 ≤ lab f v → v ∉ q → (∀ u, Edge l wo v u → 0 ≤ lab f u ∧ lab f u ≤ lab f v + 1) ∧ lab f v ≤ lab f (hd q)
  part : ∀ j, j < k → (pp l j).1 ≠ wo → 0 < oth (pp l j) (hd q) → 0 ≤ lab f (oth (pp l j) (hd q))

theorem Mid.head {N : Int} {l : List Pip} {wo s : Int} {f q : List Int} {k : Nat} (h : Mid N l wo s f q k) : hd q ∈ q ∧ (1 ≤ hd q ∧ hd q ≤ N) ∧ 0 ≤ lab f (hd q) := by
  have hm : hd q ∈ q := by
    unfold hd
    rw [List.getElem?_eq_getElem h.ne]
    exact List.getElem_mem h.ne
  exact ⟨hm, h.qin _ hm⟩
theorem Mid.no {N : Int} {l : List Pip} {wo s : Int} {f q : List Int} {k : Nat} (h : Mid N l wo s f q k) (hn : (pp l k).1 ≠ wo → 0 < oth (pp l k) (hd q) → 0 ≤ lab f (oth (pp l k) (hd q))) : Mid N l wo s f q (k + 1) :=
  ⟨h.len, h.zero, h.low, h.self, h.only, h.back, h.ne, h.qin, h.sorted, h.top, h.done, fun j hj => by
    by_cases e : j = k
    · subst e; exact hn
    · exact h.part j (by omega)⟩
theorem hd_app (q : List Int) (x : Int) (h : 0 < q.length) : hd (q ++ [x]) = hd q := by
  unfold hd
  rw [List.getElem?_append_left h]
theorem Mid.yes {N : Int} {l : List Pip} {wo s : Int} {f q : List Int} {k : Nat} {tv : Int} (hg : goodNet N l = true) (h : Mid N l wo s f q k) (hk : k < l.length) (hw : (pp l k).1 ≠ wo) (ht : oth (pp l k) (hd q) = tv) (hp : 0 < tv) (hl : lab f tv < 0) :
    Mid N l wo s (f.set tv.toNat (lab f (hd q) + 1)) (q ++ [tv]) (k + 1) := by
  obtain ⟨hm, hh, hh0⟩ := h.head
  have he : Edge l wo (hd q) tv := ⟨k, hk, hw, ht, hp⟩
  obtain ⟨-, ⟨t1, t2⟩, hne⟩ := he.ends hg
  have L : ∀ v, 0 ≤ v → lab (f.set tv.toNat (lab f (hd q) + 1)) v = if v = tv then lab f (hd q) + 1 else lab f v := fun v hv => lab_set h.len ⟨by omega, t2⟩ hv
  have Lh : lab (f.set tv.toNat (lab f (hd q) + 1)) (hd q) = lab f (hd q) := by rw [L _ (by omega), if_neg hne]
  have hqt : ∀ x ∈ q, x ≠ tv := fun x hx e => by have := (h.qin x hx).2; rw [e] at this; omega
  have hst : s ≠ tv := fun e => by have := h.self; rw [e] at this; omega
  have hs0 : 0 ≤ s ∨ s < 0 := by omega
  have Lq : ∀ i, i < q.length → lab (f.set tv.toNat (lab f (hd q) + 1)) (q[i]?.getD 0) = lab f (q[i]?.getD 0) := fun i hi => by
    have hmem : q[i]?.getD 0 ∈ q := by rw [List.getElem?_eq_getElem hi]; exact List.getElem_mem hi
    rw [L _ (by have := (h.qin _ hmem).1; omega), if_neg (hqt _ hmem)]
  refine ⟨by simp [h.len], ?_, ?_, ?_, ?_, ?_, by simp, ?_, ?_, ?_, ?_, ?_⟩
  · rw [L 0 (by omega), if_neg (by omega)]; exact h.zero
  · intro v h1 h2
    rw [L v (by omega)]
    split
    · omega
    · exact h.low v h1 h2
  · unfold lab at *
    rw [List.getElem?_set_ne]
    · exact h.self
    · intro e
      have h0 := h.self
      have hl' := hl
      simp only [lab] at h0
      rw [← e] at h0
      omega
  · intro v h1 h2 h3
    rw [L v (by omega)] at h3
    split at h3
    · omega
    · exact h.only v h1 h2 h3
  · intro v h1 h2 h3
    rw [L v (by omega)] at h3 ⊢
    split at h3
    · rename_i e
      subst e
      rw [if_pos rfl]
      exact ⟨hd q, he, by rw [Lh]; omega⟩
    · rename_i e
      rw [if_neg e]
      obtain ⟨u, hu, hu2⟩ := h.back v h1 h2 h3
      obtain ⟨⟨u1, u2⟩, -, -⟩ := hu.ends hg
      refine ⟨u, hu, ?_⟩
      rw [L u (by omega)]
      split
      · rename_i e2
        rw [e2] at hu2
        omega
      · exact hu2
  · intro x hx
    rw [List.mem_append, List.mem_singleton] at hx
    rcases hx with hx | rfl
    · refine ⟨(h.qin x hx).1, ?_⟩
      rw [L x (by have := (h.qin x hx).1; omega), if_neg (hqt x hx)]
      exact (h.qin x hx).2
    · refine ⟨⟨t1, t2⟩, ?_⟩
      rw [L _ (by omega), if_pos rfl]
      omega
  · intro i j hij hj
    rw [List.length_append] at hj
    simp only [List.length_singleton] at hj
    by_cases hjq : j < q.length
    · rw [List.getElem?_append_left hjq, List.getElem?_append_left (by omega), Lq i (by omega), Lq j hjq]
      exact h.sorted i j hij hjq
    · obtain rfl : j = q.length := by omega
      have ej : (q ++ [tv])[q.length]?.getD 0 = tv := by simp
      rw [ej, L tv (by omega), if_pos rfl]
      by_cases hiq : i < q.length
      · rw [List.getElem?_append_left hiq, Lq i hiq]
        have hmem : q[i]?.getD 0 ∈ q := by rw [List.getElem?_eq_getElem hiq]; exact List.getElem_mem hiq
        have := (h.qin _ hmem).1
        exact h.top _ this.1 this.2
      · obtain rfl : i = q.length := by omega
        rw [ej, L tv (by omega), if_pos rfl]
        exact Int.le_refl _
  · intro v h1 h2
    rw [hd_app _ _ h.ne, Lh, L v (by omega)]
    split
    · omega
    · exact h.top v h1 h2
  · intro v h1 h2 h3 h4
    rw [List.mem_append, List.mem_singleton, not_or] at h4
    rw [L v (by omega), if_neg h4.2] at h3
    obtain ⟨a, b⟩ := h.done v h1 h2 h3 h4.1
    rw [hd_app _ _ h.ne, Lh, L v (by omega), if_neg h4.2]
    refine ⟨fun u hu => ?_, b⟩
    obtain ⟨-, ⟨u1, u2⟩, -⟩ := hu.ends hg
    have := a u hu
    rw [L u (by omega)]
    split
    · rename_i e; rw [e] at this; omega
    · exact this
  · intro j hj hwj hoj
    rw [hd_app _ _ h.ne] at hoj ⊢
    rw [L _ (by omega)]
    split
    · omega
    · rename_i e
      by_cases ejk : j = k
      · subst ejk; exact absurd ht e
      · exact h.part j (by omega) hwj hoj

/-- All pipes have been gone through: the first node is done. -/
theorem Mid.step {N : Int} {l : List Pip} {wo s : Int} {f q : List Int} (hg : goodNet N l = true) (h : Mid N l wo s f q l.length) (u : Int) (hu : Edge l wo (hd q) u) : 0 ≤ lab f u ∧ lab f u ≤ lab f (hd q) + 1 := by
  obtain ⟨-, ⟨u1, u2⟩, -⟩ := hu.ends hg
  have h2 := h.top u u1 u2
  obtain ⟨k, hk, hw, ho, hp⟩ := hu
  have := h.part k hk hw (by omega)
  rw [ho] at this
  exact ⟨this, h2⟩
theorem Mid.next {N : Int} {l : List Pip} {wo s x : Int} {f q : List Int} (hg : goodNet N l = true) (h : Mid N l wo s f (x :: q) l.length) (hq : 0 < q.length) : Mid N l wo s f q 0 := by
  have hx : hd (x :: q) = x := rfl
  have hmem : hd q ∈ q := by unfold hd; rw [List.getElem?_eq_getElem hq]; exact List.getElem_mem hq
  have hle : lab f x ≤ lab f (hd q) := by
    have := h.sorted 0 1 (by omega) (by simp; omega)
    simpa [hd] using this
  refine ⟨h.len, h.zero, h.low, h.self, h.only, h.back, hq, fun y hy => h.qin y (by simp [hy]), ?_, ?_, ?_, fun j hj => absurd hj (by omega)⟩
  · intro i j hij hj
    have := h.sorted (i + 1) (j + 1) (by omega) (by simp; omega)
    simpa using this
  · intro v h1 h2
    have := h.top v h1 h2
    rw [hx] at this
    omega
  · intro v h1 h2 h3 h4
    by_cases e : v = x
    · subst e
      refine ⟨fun u hu => ?_, hle⟩
      have := h.step hg u (by rw [hx]; exact hu)
      rwa [hx] at this
    · obtain ⟨a, b⟩ := h.done v h1 h2 h3 (by simp [e, h4])
      rw [hx] at b
      exact ⟨a, by omega⟩
theorem Mid.last {N : Int} {l : List Pip} {wo s x : Int} {f : List Int} (hg : goodNet N l = true) (h : Mid N l wo s f [x] l.length) : IsDist N l wo s (lab f) := by
  have hx : hd [x] = x := rfl
  refine ⟨h.low, h.self, h.only, h.back, fun u v he h0 => ?_⟩
  obtain ⟨⟨u1, u2⟩, -, -⟩ := he.ends hg
  by_cases e : u = x
  · subst e
    have := h.step hg v (by rw [hx]; exact he)
    rwa [hx] at this
  · exact (h.done u u1 u2 h0 (by simp [e])).1 v he
theorem Mid.start {N : Int} {l : List Pip} {wo s : Int} {f : List Int} (hs : 1 ≤ s ∧ s ≤ N) (hl : f.length = N.toNat + 1) (hf : ∀ v, 0 ≤ v → v ≤ N → v ≠ s → lab f v = -1) (h0 : lab f s = 0) : Mid N l wo s f [s] 0 := by
  have hx : hd [s] = s := rfl
  refine ⟨hl, hf 0 (by omega) (by omega) (by omega), ?_, h0, ?_, ?_, by simp, ?_, ?_, ?_, ?_, fun j hj => absurd hj (by omega)⟩
  · intro v h1 h2
    by_cases e : v = s
    · subst e; omega
    · rw [hf v (by omega) h2 e]; omega
  · intro v h1 h2 h3
    by_cases e : v = s
    · exact e
    · rw [hf v (by omega) h2 e] at h3; omega
  · intro v h1 h2 h3
    by_cases e : v = s
    · subst e; omega
    · rw [hf v (by omega) h2 e] at h3; omega
  · intro x hx
    rw [List.mem_singleton] at hx
    subst hx
    exact ⟨hs, by omega⟩
  · intro i j hij hj
    simp only [List.length_singleton] at hj
    obtain rfl : j = 0 := by omega
    obtain rfl : i = 0 := by omega
    exact Int.le_refl _
  · intro v h1 h2
    rw [hx, h0]
    by_cases e : v = s
    · subst e; omega
    · rw [hf v (by omega) h2 e]; omega
  · intro v h1 h2 h3 h4
    by_cases e : v = s
    · subst e; simp at h4
    · rw [hf v (by omega) h2 e] at h3; omega

end Go.Proofs.Ytheaagbffphdmaa
