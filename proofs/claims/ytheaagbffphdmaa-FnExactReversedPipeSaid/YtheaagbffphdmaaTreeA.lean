/-
  Trees, in plain lists: no more nodes are reached than there are pipes and one; without a pipe one of its ends is not reached; flows.
-/
import Derived.Test.YtheaagbffphdmaaRing
import Derived.Test.YtheaagbffphdmaaDown
set_option linter.unusedVariables false
set_option linter.unusedSimpArgs false
namespace Go.Proofs.Ytheaagbffphdmaa
open Go.RowKit

theorem nodup_len : ∀ (n : Nat) (A : List Nat), A.Nodup → (∀ x ∈ A, x < n) → A.length ≤ n
  | 0, A, _, h => by
    cases A with
    | nil => simp
    | cons x r => have := h x (by simp); omega
  | n + 1, A, hA, h => by
    by_cases hn : n ∈ A
    · have := nodup_len n (A.erase n) (hA.erase n) (fun x hx => by
        rw [hA.mem_erase_iff] at hx
        have := h x hx.2
        omega)
      have := List.length_erase_of_mem hn
      omega
    · have := nodup_len n A hA (fun x hx => by
        have := h x hx
        have : x ≠ n := fun e => hn (e ▸ hx)
        omega)
      omega
theorem inj_len {A : List Int} {n : Nat} (hA : A.Nodup) (g : Int → Nat) (hg : ∀ x ∈ A, g x < n) (hi : ∀ x ∈ A, ∀ y ∈ A, g x = g y → x = y) : A.length ≤ n := by
  have := nodup_len n (A.map g) (by
    unfold List.Nodup
    rw [List.pairwise_map]
    refine List.Pairwise.imp_of_mem ?_ hA
    intro x y hx hy hne e
    exact hne (hi x hx y hy e)) (fun z hz => by
      obtain ⟨x, hx, rfl⟩ := List.mem_map.1 hz
      exact hg x hx)
  simpa using this
theorem asc_nodup {l : List Int} (h : Asc l) : l.Nodup := List.Pairwise.imp (fun h => by omega) h

theorem oth_ends {p : Pip} {u v : Int} (h : oth p u = v) (hv : 0 < v) : (u = p.2.1 ∧ v = p.2.2.1) ∨ (u = p.2.2.1 ∧ v = p.2.1) := by
  unfold oth at h
  split at h
  · left; exact ⟨by assumption, h.symm⟩
  · split at h
    · right; exact ⟨by assumption, h.symm⟩
    · omega
/-- A pipe leads to a node from one that is nearer by one. -/
def BackK (l : List Pip) (wo s v : Int) (k : Nat) : Prop := k < l.length ∧ (pp l k).1 ≠ wo ∧ ∃ u, oth (pp l k) u = v ∧ 0 < v ∧ far l wo s u = far l wo s v - 1
theorem backK_inj {l : List Pip} {wo s x y : Int} {k : Nat} (hx : BackK l wo s x k) (hy : BackK l wo s y k) : x = y := by
  obtain ⟨-, -, u, h1, h2, h3⟩ := hx
  obtain ⟨-, -, v, h4, h5, h6⟩ := hy
  rcases oth_ends h1 h2 with ⟨a, b⟩ | ⟨a, b⟩ <;> rcases oth_ends h4 h5 with ⟨c, d⟩ | ⟨c, d⟩
  · omega
  · rw [a, b] at h3; rw [c, d] at h6; omega
  · rw [a, b] at h3; rw [c, d] at h6; omega
  · omega
theorem backK_ex {N : Int} {l : List Pip} {wo s v : Int} (hg : goodNet N l = true) (h1 : 1 ≤ v) (h2 : v ≤ N) (h : 0 < far l wo s v) : ∃ k, BackK l wo s v k := by
  obtain ⟨u, ⟨k, hk, hne, ho, hv⟩, hu⟩ := (far_is (wo := wo) (s := s) hg).back v h1 h2 h
  exact ⟨k, hk, hne, u, ho, hv, hu⟩
theorem reach_count {N : Int} {l : List Pip} {s : Int} (hg : goodNet N l = true) : (reachL N l 0 s).length ≤ l.length + 1 := by
  classical
  refine inj_len (asc_nodup (asc_nonneg _ _)) (fun v => if h : ∃ k, BackK l 0 s v k then Classical.choose h else l.length) ?_ ?_
  · intro x hx
    split
    · rename_i h
      have := (Classical.choose_spec h).1
      omega
    · omega
  · intro x hx y hy he
    obtain ⟨⟨x1, x2⟩, x3⟩ := mem_reachL.1 hx
    obtain ⟨⟨y1, y2⟩, y3⟩ := mem_reachL.1 hy
    have only := (far_is (wo := 0) (s := s) hg).only
    split at he <;> split at he
    · rename_i h h'
      have a := Classical.choose_spec h
      have b := Classical.choose_spec h'
      rw [← he] at b
      exact backK_inj a b
    · rename_i h h'
      have := (Classical.choose_spec h).1
      omega
    · rename_i h h'
      have := (Classical.choose_spec h').1
      omega
    · rename_i h h'
      have ex : x = s := only x x1 x2 (by
        apply Classical.byContradiction
        intro hn
        exact h (backK_ex hg x1 x2 (by omega)))
      have ey : y = s := only y y1 y2 (by
        apply Classical.byContradiction
        intro hn
        exact h' (backK_ex hg y1 y2 (by omega)))
      omega
theorem treeB_iff {N : Int} {l : List Pip} (hg : goodNet N l = true) : treeB N l = true ↔ (l.length : Int) = N - 1 ∧ ∀ u v : Int, 1 ≤ u → u ≤ N → 1 ≤ v → v ≤ N → Conn l u v := by
  have hN := (goodNet_get hg).1
  unfold treeB
  simp only [Bool.and_eq_true, decide_eq_true_eq]
  rw [reachL_all (by omega)]
  constructor
  · rintro ⟨h1, h2⟩
    exact ⟨h1, fun u v u1 u2 v1 v2 => (Conn.symm hg (h2 u u1 u2)).trans (h2 v v1 v2)⟩
  · rintro ⟨h1, h2⟩
    exact ⟨h1, fun v v1 v2 => h2 1 v (by omega) (by omega) v1 v2⟩
/-- Where all are connected, and no way is cut by a pipe left out, all are connected without it. -/
theorem all_without {N : Int} {l : List Pip} {s : Int} {i : Nat} (hg : goodNet N l = true) (hi : i < l.length) (hs : 1 ≤ s ∧ s ≤ N) (hc : ∀ v : Int, 1 ≤ v → v ≤ N → Conn l s v)
    (he : 0 ≤ far l (pp l i).1 s (pp l i).2.1 ↔ 0 ≤ far l (pp l i).1 s (pp l i).2.2.1) (v : Int) (h1 : 1 ≤ v) (h2 : v ≤ N) : 0 ≤ far l (pp l i).1 s v := by
  have hd := far_is (wo := (pp l i).1) (s := s) hg
  refine (far_is (wo := 0) (s := s) hg).reach hg (R := fun v => 0 ≤ far l (pp l i).1 s v) (by show 0 ≤ far l (pp l i).1 s s; rw [far_self hg]; omega) ?_ (far l 0 s v).toNat v h1 h2 (by have : 0 ≤ far l 0 s v := hc v h1 h2; omega)
  rintro u x ⟨k, hk, -, ho, hx⟩ hu
  by_cases e : (pp l k).1 = (pp l i).1
  · have hki : k = i := by
      apply Classical.byContradiction
      intro hn
      by_cases h : k < i
      · have := ids_rise hg i k hi h; omega
      · have := ids_rise hg k i hk (by omega); omega
    subst hki
    rcases oth_ends ho hx with ⟨a, b⟩ | ⟨a, b⟩
    · rw [a] at hu; rw [b]; exact he.1 hu
    · rw [a] at hu; rw [b]; exact he.2 hu
  · exact (hd.step u x ⟨k, hk, e, ho, hx⟩ hu).1
/-- In a tree, without a pipe, one of its ends is reached, the other one is not. -/
theorem tree_bridge {N : Int} {l : List Pip} {s : Int} {i : Nat} (hg : goodNet N l = true) (ht : treeB N l = true) (hs : 1 ≤ s ∧ s ≤ N) (hi : i < l.length) : 0 ≤ far l (pp l i).1 s (pp l i).2.1 ↔ ¬ 0 ≤ far l (pp l i).1 s (pp l i).2.2.1 := by
  obtain ⟨h1, h2⟩ := (treeB_iff hg).1 ht
  have key : ¬ (0 ≤ far l (pp l i).1 s (pp l i).2.1 ↔ 0 ≤ far l (pp l i).1 s (pp l i).2.2.1) := by
    intro he
    have hall := all_without hg hi hs (fun v v1 v2 => h2 s v hs.1 hs.2 v1 v2) he
    have hg' := goodNet_sub (List.eraseIdx_sublist l i) hg
    have hN := (goodNet_get hg).1
    have := (reachL_all (l := l.eraseIdx i) (s := s) (N := N) (by omega)).2 (fun v v1 v2 => by
      unfold Conn
      rw [far_without hg hi]
      exact hall v v1 v2)
    have hcnt := reach_count (s := s) hg'
    rw [List.length_eraseIdx_of_lt hi] at hcnt
    omega
  constructor
  · intro a b
    exact key ⟨fun _ => b, fun _ => a⟩
  · intro a
    apply Classical.byContradiction
    intro b
    exact key ⟨fun h => absurd h b, fun h => absurd h a⟩

/-- The demands of the first nodes that are not reached. -/
def dsum (D ds : List Int) : Nat → Int
  | 0 => 0
  | k + 1 => if D[k + 1]?.getD 0 < 0 then dsum D ds k + ds[k]?.getD 0 else dsum D ds k
theorem dsum_yes {D ds : List Int} {k : Nat} (h : D[k + 1]?.getD 0 < 0) : dsum D ds (k + 1) = dsum D ds k + ds[k]?.getD 0 := by simp [dsum, h]
theorem dsum_no {D ds : List Int} {k : Nat} (h : ¬ D[k + 1]?.getD 0 < 0) : dsum D ds (k + 1) = dsum D ds k := by simp [dsum, h]
theorem dsum_fit {D ds : List Int} (h : ∀ x ∈ ds, 0 ≤ x ∧ x ≤ 1000) : ∀ k, k ≤ ds.length → 0 ≤ dsum D ds k ∧ dsum D ds k ≤ 1000 * (k : Int)
  | 0, _ => by simp [dsum]
  | k + 1, hk => by
    have ih := dsum_fit (D := D) h k (by omega)
    have hx := h _ (getD_mem ds k (by omega))
    by_cases hp : D[k + 1]?.getD 0 < 0
    · rw [dsum_yes hp]; omega
    · rw [dsum_no hp]; omega
/-- The demands of nodes. -/
def nsum (ds L : List Int) (k : Nat) : Int := ((L.take k).map fun v => ds[v.toNat - 1]?.getD 0).sum
theorem nsum_succ {ds L : List Int} {k : Nat} (h : k < L.length) : nsum ds L (k + 1) = nsum ds L k + ds[(L[k]?.getD 0).toNat - 1]?.getD 0 := by
  unfold nsum
  rw [take_succ' L k h]
  simp
theorem neg_dsum (D ds : List Int) : ∀ k, ((neg D (k + 1)).map fun v => ds[v.toNat - 1]?.getD 0).sum = dsum D ds k
  | 0 => by simp [neg_one, dsum]
  | k + 1 => by
    have ih := neg_dsum D ds k
    by_cases h : D[k + 1]?.getD 0 < 0
    · rw [neg_yes (k := k + 1) (by omega) h, List.map_append, List.sum_append, ih, dsum_yes h]
      simp
    · rw [neg_no (k := k + 1) (fun e => h e.2), ih, dsum_no h]
theorem nsum_all (D ds : List Int) (M : Nat) : nsum ds (neg D (M + 1)) (neg D (M + 1)).length = dsum D ds M := by
  unfold nsum
  rw [List.take_of_length_le (Nat.le_refl _), neg_dsum]
theorem mem_neg {D : List Int} {k : Nat} {x : Int} : x ∈ neg D k ↔ ∃ v : Nat, v < k ∧ x = v ∧ 0 < v ∧ D[v]?.getD 0 < 0 := by
  unfold neg
  simp only [List.mem_map, List.mem_filter, List.mem_range, Bool.and_eq_true, decide_eq_true_eq]
  constructor
  · rintro ⟨v, ⟨h1, h2, h3⟩, rfl⟩; exact ⟨v, h1, rfl, h2, h3⟩
  · rintro ⟨v, h1, rfl, h2, h3⟩; exact ⟨v, ⟨h1, h2, h3⟩, rfl⟩
theorem nsum_fit {ds L : List Int} (h : ∀ x ∈ ds, 0 ≤ x ∧ x ≤ 1000) : ∀ k, k ≤ L.length → (0 ≤ nsum ds L k ∧ nsum ds L k ≤ 1000 * (k : Int))
  | 0, _ => by simp [nsum]
  | k + 1, hk => by
    have ih := nsum_fit (ds := ds) (L := L) h k (by omega)
    rw [nsum_succ (by omega)]
    by_cases hl : (L[k]?.getD 0).toNat - 1 < ds.length
    · have hx := h _ (getD_mem ds _ hl)
      omega
    · rw [List.getElem?_eq_none (by omega)]
      simp
      omega

/-- The flow through a pipe of a tree. -/
noncomputable def tflow (M : Nat) (l : List Pip) (s : Int) (ds : List Int) (i : Nat) : Int :=
  if (distL M l (pp l i).1 s)[(pp l i).2.2.1.toNat]?.getD 0 < 0 then dsum (distL M l (pp l i).1 s) ds M else -(dsum (distL M l (pp l i).1 s) ds M)
noncomputable def tflows (M : Nat) (l : List Pip) (s : Int) (ds : List Int) (k : Nat) : List Int := (List.range k).map (tflow M l s ds)
theorem tflows_succ (M : Nat) (l : List Pip) (s : Int) (ds : List Int) (k : Nat) : tflows M l s ds (k + 1) = tflows M l s ds k ++ [tflow M l s ds k] := by simp [tflows, List.range_succ]
theorem tflows_len (M : Nat) (l : List Pip) (s : Int) (ds : List Int) (k : Nat) : (tflows M l s ds k).length = k := by simp [tflows]
/-- In a tree the end from which a pipe leads is not reached just where the other one is. -/
theorem tree_from {M : Nat} {l : List Pip} {s : Int} {i : Nat} (hg : goodNet M l = true) (ht : treeB M l = true) (hs : 1 ≤ s ∧ s ≤ M) (hi : i < l.length) : (pp l i).2.1 ∈ neg (distL M l (pp l i).1 s) (M + 1) ↔ ¬ (distL M l (pp l i).1 s)[(pp l i).2.2.1.toNat]?.getD 0 < 0 := by
  obtain ⟨-, p1, p2, -, -⟩ := goodNet_pipe hg hi
  have hb := tree_bridge hg ht hs hi
  rw [distL_at (by omega) (by omega), show (((pp l i).2.2.1.toNat : Nat) : Int) = (pp l i).2.2.1 by omega, mem_neg]
  constructor
  · rintro ⟨v, h1, h2, h3, h4⟩
    rw [distL_at (by omega) (by omega), ← h2] at h4
    apply Classical.byContradiction
    intro h5
    have h6 : far l (pp l i).1 s (pp l i).2.2.1 < 0 := by omega
    have := hb.2 (by omega)
    omega
  · intro h
    refine ⟨(pp l i).2.1.toNat, by omega, by omega, by omega, ?_⟩
    rw [distL_at (by omega) (by omega), show (((pp l i).2.1.toNat : Nat) : Int) = (pp l i).2.1 by omega]
    apply Classical.byContradiction
    intro h5
    exact hb.1 (by omega) (by omega)

end Go.Proofs.Ytheaagbffphdmaa
