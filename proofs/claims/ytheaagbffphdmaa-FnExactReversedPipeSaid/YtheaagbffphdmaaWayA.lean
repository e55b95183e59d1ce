/-
  Shortest ways, in plain lists: the first pipe that leads nearer, node by node.
-/
import Derived.Test.YtheaagbffphdmaaTreeA
import Derived.Test.YtheaagbffphdmaaNetL
set_option linter.unusedVariables false
set_option linter.unusedSimpArgs false
namespace Go.Proofs.Ytheaagbffphdmaa
open Go.RowKit

theorem far_chain {N : Int} {l : List Pip} {wo s : Int} (hg : goodNet N l = true) (hs : 1 ≤ s ∧ s ≤ N) : ∀ (d : Nat) (v : Int), 1 ≤ v → v ≤ N → far l wo s v = d → ∀ j : Nat, j ≤ d → ∃ u : Int, (1 ≤ u ∧ u ≤ N) ∧ far l wo s u = j
  | 0, v, h1, h2, h, j, hj => ⟨v, ⟨h1, h2⟩, by omega⟩
  | d + 1, v, h1, h2, h, j, hj => by
    by_cases e : j = d + 1
    · exact ⟨v, ⟨h1, h2⟩, by omega⟩
    · obtain ⟨u, he, hu⟩ := (far_is (wo := wo) (s := s) hg).back v h1 h2 (by omega)
      obtain ⟨⟨u1, u2⟩, -, -⟩ := he.ends hg
      exact far_chain hg hs d u u1 u2 (by omega) j (by omega)
theorem far_lt {N : Int} {l : List Pip} {wo s v : Int} (hg : goodNet N l = true) (hs : 1 ≤ s ∧ s ≤ N) (h1 : 1 ≤ v) (h2 : v ≤ N) : far l wo s v < N := by
  classical
  by_cases h0 : 0 ≤ far l wo s v
  · obtain ⟨d, hd⟩ : ∃ d : Nat, far l wo s v = d := ⟨(far l wo s v).toNat, by omega⟩
    have hch := far_chain hg hs d v h1 h2 hd
    have key := inj_len (A := (List.range (d + 1)).map fun j => if h : j ≤ d then Classical.choose (hch j h) else 0) (n := N.toNat) (by
      unfold List.Nodup
      rw [List.pairwise_map]
      refine List.Pairwise.imp_of_mem ?_ List.nodup_range
      intro i j hi hj hne e
      rw [List.mem_range] at hi hj
      rw [dif_pos (by omega), dif_pos (by omega)] at e
      have a := (Classical.choose_spec (hch i (by omega))).2
      have b := (Classical.choose_spec (hch j (by omega))).2
      rw [e] at a
      omega) (fun u => u.toNat - 1) (fun x hx => by
      obtain ⟨j, hj, rfl⟩ := List.mem_map.1 hx
      rw [List.mem_range] at hj
      rw [dif_pos (by omega)]
      have := (Classical.choose_spec (hch j (by omega))).1
      omega) (fun x hx y hy e => by
      obtain ⟨i, hi, rfl⟩ := List.mem_map.1 hx
      obtain ⟨j, hj, rfl⟩ := List.mem_map.1 hy
      rw [List.mem_range] at hi hj
      have a := (Classical.choose_spec (hch i (by omega))).1
      have b := (Classical.choose_spec (hch j (by omega))).1
      simp only [dif_pos (show i ≤ d by omega), dif_pos (show j ≤ d by omega)] at e ⊢
      omega)
    simp only [List.length_map, List.length_range] at key
    omega
  · omega

/-- A pipe leads from a node to one that is nearer by one. -/
def stepB (l : List Pip) (f : Int → Int) (v : Int) (k : Nat) : Bool := decide (0 < oth (pp l k) v) && decide (f (oth (pp l k) v) = f v - 1)
def firstK (l : List Pip) (f : Int → Int) (v : Int) : Nat := (List.range l.length).findIdx (stepB l f v)
theorem firstK_hit {l : List Pip} {f : Int → Int} {v : Int} {k : Nat} (hk : k < l.length) (h : stepB l f v k = true) (hm : ∀ j, j < k → stepB l f v j = false) : firstK l f v = k := by
  unfold firstK
  rw [List.findIdx_eq (by simpa using hk)]
  refine ⟨by simpa using h, fun j hj => by simpa using hm j hj⟩
theorem firstK_ok {l : List Pip} {f : Int → Int} {v : Int} (h : ∃ k, k < l.length ∧ stepB l f v k = true) : firstK l f v < l.length ∧ stepB l f v (firstK l f v) = true ∧ ∀ j, j < firstK l f v → stepB l f v j = false := by
  obtain ⟨m, ⟨hm, hs⟩, hl⟩ := least h
  have e := firstK_hit hm hs (fun j hj => by
    cases e : stepB l f v j
    · rfl
    · exact absurd ⟨by omega, e⟩ (hl j hj))
  rw [e]
  refine ⟨hm, hs, fun j hj => ?_⟩
  cases e2 : stepB l f v j
  · rfl
  · exact absurd ⟨by omega, e2⟩ (hl j hj)
theorem stepB_iff {l : List Pip} {f : Int → Int} {v : Int} {k : Nat} : stepB l f v k = true ↔ 0 < oth (pp l k) v ∧ f (oth (pp l k) v) = f v - 1 := by simp [stepB]

/-- The nodes along the way, and its pipes. -/
def nod (l : List Pip) (f : Int → Int) (v0 : Int) : Nat → Int
  | 0 => v0
  | j + 1 => oth (pp l (firstK l f (nod l f v0 j))) (nod l f v0 j)
def kk (l : List Pip) (f : Int → Int) (v0 : Int) (j : Nat) : Nat := firstK l f (nod l f v0 j)
theorem nod_succ (l : List Pip) (f : Int → Int) (v0 : Int) (j : Nat) : nod l f v0 (j + 1) = oth (pp l (kk l f v0 j)) (nod l f v0 j) := rfl
theorem step_ex {N : Int} {l : List Pip} {t v : Int} (hg : goodNet N l = true) (h1 : 1 ≤ v) (h2 : v ≤ N) (h : 0 < far l 0 t v) : ∃ k, k < l.length ∧ stepB l (far l 0 t) v k = true := by
  obtain ⟨u, he, hu⟩ := (far_is (wo := 0) (s := t) hg).back v h1 h2 h
  obtain ⟨k, hk, -, ho, hx⟩ := he.symm hg
  exact ⟨k, hk, stepB_iff.2 ⟨by rw [ho]; exact hx, by rw [ho]; exact hu⟩⟩
theorem nod_ok {N : Int} {l : List Pip} {t v0 : Int} (hg : goodNet N l = true) (h1 : 1 ≤ v0) (h2 : v0 ≤ N) : ∀ j : Nat, (j : Int) ≤ far l 0 t v0 → (1 ≤ nod l (far l 0 t) v0 j ∧ nod l (far l 0 t) v0 j ≤ N) ∧ far l 0 t (nod l (far l 0 t) v0 j) = far l 0 t v0 - j
  | 0, _ => ⟨⟨h1, h2⟩, by simp [nod]⟩
  | j + 1, h => by
    obtain ⟨⟨a, b⟩, c⟩ := nod_ok (t := t) hg h1 h2 j (by omega)
    obtain ⟨k1, k2, -⟩ := firstK_ok (step_ex (t := t) hg a b (by omega))
    rw [stepB_iff] at k2
    obtain ⟨-, e, -, -⟩ := okQ_ends hg k1 rfl k2.1
    rw [nod_succ]
    refine ⟨e, ?_⟩
    show far l 0 t (oth (pp l (firstK l (far l 0 t) (nod l (far l 0 t) v0 j))) (nod l (far l 0 t) v0 j)) = _
    rw [k2.2]
    omega
theorem kk_ok {N : Int} {l : List Pip} {t v0 : Int} {j : Nat} (hg : goodNet N l = true) (h1 : 1 ≤ v0) (h2 : v0 ≤ N) (hj : (j : Int) < far l 0 t v0) : kk l (far l 0 t) v0 j < l.length ∧ stepB l (far l 0 t) (nod l (far l 0 t) v0 j) (kk l (far l 0 t) v0 j) = true ∧ ∀ i, i < kk l (far l 0 t) v0 j → stepB l (far l 0 t) (nod l (far l 0 t) v0 j) i = false := by
  obtain ⟨⟨a, b⟩, c⟩ := nod_ok (t := t) hg h1 h2 j (by omega)
  exact firstK_ok (step_ex hg a b (by omega))
theorem nod_end {N : Int} {l : List Pip} {t v0 : Int} {j : Nat} (hg : goodNet N l = true) (h1 : 1 ≤ v0) (h2 : v0 ≤ N) (hj : (j : Int) ≤ far l 0 t v0) : nod l (far l 0 t) v0 j = t ↔ (j : Int) = far l 0 t v0 := by
  obtain ⟨⟨a, b⟩, c⟩ := nod_ok (t := t) hg h1 h2 j hj
  constructor
  · intro e
    rw [e, far_self hg] at c
    omega
  · intro e
    exact (far_is (wo := 0) (s := t) hg).only _ a b (by omega)
/-- The Ids of the first pipes of the way. -/
def wids (l : List Pip) (f : Int → Int) (v0 : Int) (d : Nat) : List Int := (List.range d).map fun j => (pp l (kk l f v0 j)).1
theorem wids_succ (l : List Pip) (f : Int → Int) (v0 : Int) (d : Nat) : wids l f v0 (d + 1) = wids l f v0 d ++ [(pp l (kk l f v0 d)).1] := by simp [wids, List.range_succ]
theorem wids_len (l : List Pip) (f : Int → Int) (v0 : Int) (d : Nat) : (wids l f v0 d).length = d := by simp [wids]
theorem wids_get (l : List Pip) (f : Int → Int) (v0 : Int) {d j : Nat} (h : j < d) : (wids l f v0 d)[j]?.getD 0 = (pp l (kk l f v0 j)).1 := by simp [wids, h]
/-- The loss of a pipe, passed from a node on. -/
def sgl (l : List Pip) (fs : List Int) (v : Int) (k : Nat) : Int := if v = (pp l k).2.1 then loss l fs k else -(loss l fs k)
def lsum (l : List Pip) (fs : List Int) (f : Int → Int) (v0 : Int) (d : Nat) : Int := ((List.range d).map fun j => sgl l fs (nod l f v0 j) (kk l f v0 j)).sum
theorem lsum_succ (l : List Pip) (fs : List Int) (f : Int → Int) (v0 : Int) (d : Nat) : lsum l fs f v0 (d + 1) = lsum l fs f v0 d + sgl l fs (nod l f v0 d) (kk l f v0 d) := by simp [lsum, List.range_succ]
theorem sgl_fit {N : Int} {l : List Pip} {fs : List Int} {v : Int} {k : Nat} (hg : goodNet N l = true) (hf : goodFl l.length fs = true) (hk : k < l.length) : -576000000 ≤ sgl l fs v k ∧ sgl l fs v k ≤ 576000000 := by
  have h1 := (goodNet_pipe hg hk).2.2.2.2
  have h2 := (goodFl_iff.1 hf).2 _ (getD_mem fs k (by have := (goodFl_iff.1 hf).1; omega))
  have := (loss_fit h1 h2).2
  unfold sgl loss
  split <;> omega
theorem lsum_fit {N : Int} {l : List Pip} {fs : List Int} {t v0 : Int} (hg : goodNet N l = true) (hf : goodFl l.length fs = true) (h1 : 1 ≤ v0) (h2 : v0 ≤ N) : ∀ d : Nat, (d : Int) ≤ far l 0 t v0 → -(576000000 * (d : Int)) ≤ lsum l fs (far l 0 t) v0 d ∧ lsum l fs (far l 0 t) v0 d ≤ 576000000 * (d : Int)
  | 0, _ => by simp [lsum]
  | d + 1, h => by
    have ih := lsum_fit (t := t) hg hf h1 h2 d (by omega)
    have hk := (kk_ok (t := t) (j := d) hg h1 h2 (by omega)).1
    have := sgl_fit (v := nod l (far l 0 t) v0 d) hg hf hk
    rw [lsum_succ]
    omega
theorem findQ_at {N : Int} {l : List Pip} {k : Nat} (hg : goodNet N l = true) (hk : k < l.length) : findQ l (pp l k).1 = k :=
  findQ_hit hk rfl (fun j hj => by have := ids_rise hg k j hk hj; omega)

end Go.Proofs.Ytheaagbffphdmaa
