/-
  Networks: how far nodes are from one another, in plain lists.
-/
import Derived.Test.YtheaagbffphdmaaNetA
set_option linter.unusedVariables false
set_option linter.unusedSimpArgs false
namespace Go.Proofs.Ytheaagbffphdmaa
open Go.RowKit

/-- The end of a pipe that is not a node, 0 if the node is none of its ends. -/
def oth (p : Pip) (v : Int) : Int := if v = p.2.1 then p.2.2.1 else if v = p.2.2.1 then p.2.1 else 0
/-- A pipe, not the one left out, leads from a node to another one. -/
def Edge (l : List Pip) (wo u v : Int) : Prop := ∃ k, k < l.length ∧ (pp l k).1 ≠ wo ∧ oth (pp l k) u = v ∧ 0 < v

theorem okQ_ends {N : Int} {l : List Pip} {k : Nat} (hg : goodNet N l = true) (hk : k < l.length) {u v : Int} (h : oth (pp l k) u = v) (hv : 0 < v) : (1 ≤ u ∧ u ≤ N) ∧ (1 ≤ v ∧ v ≤ N) ∧ u ≠ v ∧ oth (pp l k) v = u := by
  obtain ⟨-, h2, h3, h4, -⟩ := goodNet_pipe hg hk
  unfold oth at h ⊢
  split at h
  · rename_i e
    subst e h
    refine ⟨h2, h3, h4, ?_⟩
    rw [if_neg (fun e => h4 e.symm), if_pos rfl]
  · split at h
    · rename_i e1 e2
      subst e2 h
      refine ⟨h3, h2, fun e => h4 e.symm, ?_⟩
      rw [if_pos rfl]
    · omega
theorem Edge.symm {N : Int} {l : List Pip} {wo u v : Int} (hg : goodNet N l = true) (h : Edge l wo u v) : Edge l wo v u := by
  obtain ⟨k, hk, h1, h2, h3⟩ := h
  obtain ⟨a, b, c, d⟩ := okQ_ends hg hk h2 h3
  exact ⟨k, hk, h1, d, by omega⟩
theorem Edge.ends {N : Int} {l : List Pip} {wo u v : Int} (hg : goodNet N l = true) (h : Edge l wo u v) : (1 ≤ u ∧ u ≤ N) ∧ (1 ≤ v ∧ v ≤ N) ∧ u ≠ v := by
  obtain ⟨k, hk, h1, h2, h3⟩ := h
  obtain ⟨a, b, c, d⟩ := okQ_ends hg hk h2 h3
  exact ⟨a, b, c⟩

/-- A function gives how far each node is from one, -1 where there is no way. -/
structure IsDist (N : Int) (l : List Pip) (wo s : Int) (f : Int → Int) : Prop where
  low : ∀ v, 1 ≤ v → v ≤ N → -1 ≤ f v
  self : f s = 0
  only : ∀ v, 1 ≤ v → v ≤ N → f v = 0 → v = s
  back : ∀ v, 1 ≤ v → v ≤ N → 0 < f v → ∃ u, Edge l wo u v ∧ f u = f v - 1
  step : ∀ u v, Edge l wo u v → 0 ≤ f u → 0 ≤ f v ∧ f v ≤ f u + 1

theorem IsDist.le {N : Int} {l : List Pip} {wo s : Int} {f g : Int → Int} (hgn : goodNet N l = true) (hf : IsDist N l wo s f) (hg : IsDist N l wo s g) :
    ∀ (d : Nat) (v : Int), 1 ≤ v → v ≤ N → f v = d → 0 ≤ g v ∧ g v ≤ d
  | 0, v, h1, h2, h => by
    have := hf.only v h1 h2 (by simpa using h)
    subst this
    have := hg.self
    omega
  | d + 1, v, h1, h2, h => by
    obtain ⟨u, he, hu⟩ := hf.back v h1 h2 (by omega)
    obtain ⟨⟨u1, u2⟩, -, -⟩ := he.ends hgn
    have ih := IsDist.le hgn hf hg d u u1 u2 (by omega)
    have := hg.step u v he ih.1
    omega
theorem IsDist.unique {N : Int} {l : List Pip} {wo s : Int} {f g : Int → Int} (hgn : goodNet N l = true) (hf : IsDist N l wo s f) (hg : IsDist N l wo s g) (v : Int) (h1 : 1 ≤ v) (h2 : v ≤ N) : f v = g v := by
  have a := hf.low v h1 h2
  have b := hg.low v h1 h2
  by_cases hfv : 0 ≤ f v
  · have c := IsDist.le hgn hf hg (f v).toNat v h1 h2 (by omega)
    have d := IsDist.le hgn hg hf (g v).toNat v h1 h2 (by omega)
    omega
  · by_cases hgv : 0 ≤ g v
    · have d := IsDist.le hgn hg hf (g v).toNat v h1 h2 (by omega)
      omega
    · omega

/-- What is closed and holds the node holds all that can be reached. -/
theorem IsDist.reach {N : Int} {l : List Pip} {wo s : Int} {f : Int → Int} (hgn : goodNet N l = true) (hf : IsDist N l wo s f) {R : Int → Prop} (hs : R s) (hc : ∀ u v, Edge l wo u v → R u → R v) :
    ∀ (d : Nat) (v : Int), 1 ≤ v → v ≤ N → f v = d → R v
  | 0, v, h1, h2, h => by
    have := hf.only v h1 h2 (by simpa using h)
    subst this
    exact hs
  | d + 1, v, h1, h2, h => by
    obtain ⟨u, he, hu⟩ := hf.back v h1 h2 (by omega)
    obtain ⟨⟨u1, u2⟩, -, -⟩ := he.ends hgn
    exact hc u v he (IsDist.reach hgn hf hs hc d u u1 u2 (by omega))

/-- A way of some length. -/
def Way (l : List Pip) (wo s : Int) : Nat → Int → Prop
  | 0, v => v = s
  | k + 1, v => ∃ u, Way l wo s k u ∧ Edge l wo u v
theorem least {p : Nat → Prop} (h : ∃ n, p n) : ∃ n, p n ∧ ∀ m, m < n → ¬ p m := by
  obtain ⟨n, hn⟩ := h
  induction n using Nat.strongRecOn with
  | _ n ih =>
    by_cases hq : ∃ m, m < n ∧ p m
    · obtain ⟨m, hm, hp⟩ := hq
      exact ih m hm hp
    · exact ⟨n, hn, fun m hm hp => hq ⟨m, hm, hp⟩⟩
/-- How far a node is. -/
noncomputable def far (l : List Pip) (wo s v : Int) : Int := by
  classical
  exact if h : ∃ n, Way l wo s n v then ((Classical.choose (least h) : Nat) : Int) else -1
theorem far_way {l : List Pip} {wo s v : Int} {n : Nat} (h : Way l wo s n v) : ∃ m : Nat, m ≤ n ∧ far l wo s v = m ∧ Way l wo s m v ∧ ∀ k, k < m → ¬ Way l wo s k v := by
  have hx : ∃ n, Way l wo s n v := ⟨n, h⟩
  obtain ⟨a, b⟩ := Classical.choose_spec (least hx)
  refine ⟨Classical.choose (least hx), ?_, ?_, a, b⟩
  · apply Classical.byContradiction
    intro hn
    exact b n (by omega) h
  · unfold far
    rw [dif_pos hx]
theorem far_none {l : List Pip} {wo s v : Int} (h : ¬ ∃ n, Way l wo s n v) : far l wo s v = -1 := by
  unfold far
  rw [dif_neg h]
theorem far_some {l : List Pip} {wo s v : Int} (h : 0 ≤ far l wo s v) : ∃ m : Nat, far l wo s v = m ∧ Way l wo s m v ∧ ∀ k, k < m → ¬ Way l wo s k v := by
  by_cases hx : ∃ n, Way l wo s n v
  · obtain ⟨n, hn⟩ := hx
    obtain ⟨m, -, a, b, c⟩ := far_way hn
    exact ⟨m, a, b, c⟩
  · rw [far_none hx] at h
    omega
theorem far_is {N : Int} {l : List Pip} {wo s : Int} (hgn : goodNet N l = true) : IsDist N l wo s (far l wo s) where
  low v _ _ := by
    by_cases hx : ∃ n, Way l wo s n v
    · obtain ⟨n, hn⟩ := hx
      obtain ⟨m, -, a, -⟩ := far_way hn
      omega
    · rw [far_none hx]; omega
  self := by
    obtain ⟨m, hm, a, -⟩ := far_way (l := l) (wo := wo) (s := s) (v := s) (n := 0) rfl
    omega
  only v _ _ h := by
    obtain ⟨m, a, b, -⟩ := far_some (l := l) (wo := wo) (s := s) (v := v) (by omega)
    obtain rfl : m = 0 := by omega
    exact b
  back v _ _ h := by
    obtain ⟨m, a, b, c⟩ := far_some (l := l) (wo := wo) (s := s) (v := v) (by omega)
    match m, b with
    | 0, _ => omega
    | m + 1, ⟨u, hu, he⟩ =>
      refine ⟨u, he, ?_⟩
      obtain ⟨k, hk, ak, bk, ck⟩ := far_way hu
      have : k = m := by
        apply Classical.byContradiction
        intro hn
        exact c (k + 1) (by omega) ⟨u, bk, he⟩
      omega
  step u v he h := by
    obtain ⟨m, a, b, c⟩ := far_some h
    obtain ⟨k, hk, ak, -⟩ := far_way (n := m + 1) (l := l) (wo := wo) (s := s) (v := v) ⟨u, b, he⟩
    omega

end Go.Proofs.Ytheaagbffphdmaa
