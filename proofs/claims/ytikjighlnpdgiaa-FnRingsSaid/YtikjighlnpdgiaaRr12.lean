/-
  Texts of this claim, joined: WayA, HeadA, LoopA, StepA.
-/
import Derived.Test.YtikjighlnpdgiaaRr11
/-
  Shortest ways, in plain lists: the first pipe that leads nearer, node by node.
-/
set_option linter.unusedVariables false
set_option linter.unusedSimpArgs false
namespace Go.Proofs.Ytikjighlnpdgiaa
open Go.RowKit

theorem far_chain {N : Int} {l : List Pip} {wo s : Int} (hg : goodNet N l = true) (hs : 1 ≤ s ∧ s ≤ N) : ∀ (d : Nat) (v : Int), 1 ≤ v → v ≤ N → far l wo s v = d → ∀ j : Nat, j ≤ d → ∃ u : Int, (1 ≤ u ∧ u ≤ N) ∧ far l wo s u = j
  | 0, v, h1, h2, h, j, hj => ⟨v, ⟨h1, h2⟩, by omega⟩
  | d + 1, v, h1, h2, h, j, hj => by
    by_cases e : j = d + 1
    · exact ⟨v, ⟨h1, h2⟩, by omega⟩
    · obtain ⟨u, he, hu⟩ := (far_is (wo := wo) (s := s) hg).back v h1 h2 (by omega)
      obtain ⟨⟨u1, u2⟩, -, -⟩ := he.ends hg
      exact far_chain hg hs d u u1 u2 (by omega) j (by omega)
theorem far_lt {N : Int} {l : List Pip} {wo s v : Int} (hg : goodNet N l = true) (hs : 1 ≤ s ∧ s ≤ N) (h1 : 1 ≤ v) (h2 : v ≤ N) : far l wo s v < N := by
  classical
  by_cases h0 : 0 ≤ far l wo s v
  · obtain ⟨d, hd⟩ : ∃ d : Nat, far l wo s v = d := ⟨(far l wo s v).toNat, by omega⟩
    have hch := far_chain hg hs d v h1 h2 hd
    have key := inj_len (A := (List.range (d + 1)).map fun j => if h : j ≤ d then Classical.choose (hch j h) else 0) (n := N.toNat) (by
      unfold List.Nodup
      rw [List.pairwise_map]
      refine List.Pairwise.imp_of_mem ?_ List.nodup_range
      intro i j hi hj hne e
      rw [List.mem_range] at hi hj
      rw [dif_pos (by omega), dif_pos (by omega)] at e
      have a := (Classical.choose_spec (hch i (by omega))).2
      have b := (Classical.choose_spec (hch j (by omega))).2
      rw [e] at a
      omega) (fun u => u.toNat - 1) (fun x hx => by
      obtain ⟨j, hj, rfl⟩ := List.mem_map.1 hx
      rw [List.mem_range] at hj
      rw [dif_pos (by omega)]
      have := (Classical.choose_spec (hch j (by omega))).1
      omega) (fun x hx y hy e => by
      obtain ⟨i, hi, rfl⟩ := List.mem_map.1 hx
      obtain ⟨j, hj, rfl⟩ := List.mem_map.1 hy
      rw [List.mem_range] at hi hj
      have a := (Classical.choose_spec (hch i (by omega))).1
      have b := (Classical.choose_spec (hch j (by omega))).1
      simp only [dif_pos (show i ≤ d by omega), dif_pos (show j ≤ d by omega)] at e ⊢
      omega)
    simp only [List.length_map, List.length_range] at key
    omega
  · omega

/-- A pipe leads from a node to one that is nearer by one. -/
def stepB (l : List Pip) (f : Int → Int) (v : Int) (k : Nat) : Bool := decide (0 < oth (pp l k) v) && decide (f (oth (pp l k) v) = f v - 1)
def firstK (l : List Pip) (f : Int → Int) (v : Int) : Nat := (List.range l.length).findIdx (stepB l f v)
theorem firstK_hit {l : List Pip} {f : Int → Int} {v : Int} {k : Nat} (hk : k < l.length) (h : stepB l f v k = true) (hm : ∀ j, j < k → stepB l f v j = false) : firstK l f v = k := by
  unfold firstK
  rw [List.findIdx_eq (by simpa using hk)]
  refine ⟨by simpa using h, fun j hj => by simpa using hm j hj⟩
theorem firstK_ok {l : List Pip} {f : Int → Int} {v : Int} (h : ∃ k, k < l.length ∧ stepB l f v k = true) : firstK l f v < l.length ∧ stepB l f v (firstK l f v) = true ∧ ∀ j, j < firstK l f v → stepB l f v j = false := by
  obtain ⟨m, ⟨hm, hs⟩, hl⟩ := least h
  have e := firstK_hit hm hs (fun j hj => by
    cases e : stepB l f v j
    · rfl
    · exact absurd ⟨by omega, e⟩ (hl j hj))
  rw [e]
  refine ⟨hm, hs, fun j hj => ?_⟩
  cases e2 : stepB l f v j
  · rfl
  · exact absurd ⟨by omega, e2⟩ (hl j hj)
theorem stepB_iff {l : List Pip} {f : Int → Int} {v : Int} {k : Nat} : stepB l f v k = true ↔ 0 < oth (pp l k) v ∧ f (oth (pp l k) v) = f v - 1 := by simp [stepB]

/-- The nodes along the way, and its pipes. -/
def nod (l : List Pip) (f : Int → Int) (v0 : Int) : Nat → Int
  | 0 => v0
  | j + 1 => oth (pp l (firstK l f (nod l f v0 j))) (nod l f v0 j)
def kk (l : List Pip) (f : Int → Int) (v0 : Int) (j : Nat) : Nat := firstK l f (nod l f v0 j)
theorem nod_succ (l : List Pip) (f : Int → Int) (v0 : Int) (j : Nat) : nod l f v0 (j + 1) = oth (pp l (kk l f v0 j)) (nod l f v0 j) := rfl
theorem step_ex {N : Int} {l : List Pip} {t v : Int} (hg : goodNet N l = true) (h1 : 1 ≤ v) (h2 : v ≤ N) (h : 0 < far l 0 t v) : ∃ k, k < l.length ∧ stepB l (far l 0 t) v k = true := by
  obtain ⟨u, he, hu⟩ := (far_is (wo := 0) (s := t) hg).back v h1 h2 h
  obtain ⟨k, hk, -, ho, hx⟩ := he.symm hg
  exact ⟨k, hk, stepB_iff.2 ⟨by rw [ho]; exact hx, by rw [ho]; exact hu⟩⟩
theorem nod_ok {N : Int} {l : List Pip} {t v0 : Int} (hg : goodNet N l = true) (h1 : 1 ≤ v0) (h2 : v0 ≤ N) : ∀ j : Nat, (j : Int) ≤ far l 0 t v0 → (1 ≤ nod l (far l 0 t) v0 j ∧ nod l (far l 0 t) v0 j ≤ N) ∧ far l 0 t (nod l (far l 0 t) v0 j) = far l 0 t v0 - j
  | 0, _ => ⟨⟨h1, h2⟩, by simp [nod]⟩
  | j + 1, h => by
    obtain ⟨⟨a, b⟩, c⟩ := nod_ok (t := t) hg h1 h2 j (by omega)
    obtain ⟨k1, k2, -⟩ := firstK_ok (step_ex (t := t) hg a b (by omega))
    rw [stepB_iff] at k2
    obtain ⟨-, e, -, -⟩ := okQ_ends hg k1 rfl k2.1
    rw [nod_succ]
    refine ⟨e, ?_⟩
    show far l 0 t (oth (pp l (firstK l (far l 0 t) (nod l (far l 0 t) v0 j))) (nod l (far l 0 t) v0 j)) = _
    rw [k2.2]
    omega
theorem kk_ok {N : Int} {l : List Pip} {t v0 : Int} {j : Nat} (hg : goodNet N l = true) (h1 : 1 ≤ v0) (h2 : v0 ≤ N) (hj : (j : Int) < far l 0 t v0) : kk l (far l 0 t) v0 j < l.length ∧ stepB l (far l 0 t) (nod l (far l 0 t) v0 j) (kk l (far l 0 t) v0 j) = true ∧ ∀ i, i < kk l (far l 0 t) v0 j → stepB l (far l 0 t) (nod l (far l 0 t) v0 j) i = false := by
  obtain ⟨⟨a, b⟩, c⟩ := nod_ok (t := t) hg h1 h2 j (by omega)
  exact firstK_ok (step_ex hg a b (by omega))
theorem nod_end {N : Int} {l : List Pip} {t v0 : Int} {j : Nat} (hg : goodNet N l = true) (h1 : 1 ≤ v0) (h2 : v0 ≤ N) (hj : (j : Int) ≤ far l 0 t v0) : nod l (far l 0 t) v0 j = t ↔ (j : Int) = far l 0 t v0 := by
  obtain ⟨⟨a, b⟩, c⟩ := nod_ok (t := t) hg h1 h2 j hj
  constructor
  · intro e
    rw [e, far_self hg] at c
    omega
  · intro e
    exact (far_is (wo := 0) (s := t) hg).only _ a b (by omega)
/-- The Ids of the first pipes of the way. -/
def wids (l : List Pip) (f : Int → Int) (v0 : Int) (d : Nat) : List Int := (List.range d).map fun j => (pp l (kk l f v0 j)).1
theorem wids_succ (l : List Pip) (f : Int → Int) (v0 : Int) (d : Nat) : wids l f v0 (d + 1) = wids l f v0 d ++ [(pp l (kk l f v0 d)).1] := by simp [wids, List.range_succ]
theorem wids_len (l : List Pip) (f : Int → Int) (v0 : Int) (d : Nat) : (wids l f v0 d).length = d := by simp [wids]
theorem wids_get (l : List Pip) (f : Int → Int) (v0 : Int) {d j : Nat} (h : j < d) : (wids l f v0 d)[j]?.getD 0 = (pp l (kk l f v0 j)).1 := by simp [wids, h]
/-- The loss of a pipe, passed from a node on. -/
def sgl (l : List Pip) (fs : List Int) (v : Int) (k : Nat) : Int := if v = (pp l k).2.1 then loss l fs k else -(loss l fs k)
def lsum (l : List Pip) (fs : List Int) (f : Int → Int) (v0 : Int) (d : Nat) : Int := ((List.range d).map fun j => sgl l fs (nod l f v0 j) (kk l f v0 j)).sum
theorem lsum_succ (l : List Pip) (fs : List Int) (f : Int → Int) (v0 : Int) (d : Nat) : lsum l fs f v0 (d + 1) = lsum l fs f v0 d + sgl l fs (nod l f v0 d) (kk l f v0 d) := by simp [lsum, List.range_succ]
theorem sgl_fit {N : Int} {l : List Pip} {fs : List Int} {v : Int} {k : Nat} (hg : goodNet N l = true) (hf : goodFl l.length fs = true) (hk : k < l.length) : -576000000 ≤ sgl l fs v k ∧ sgl l fs v k ≤ 576000000 := by
  have h1 := (goodNet_pipe hg hk).2.2.2.2
  have h2 := (goodFl_iff.1 hf).2 _ (getD_mem fs k (by have := (goodFl_iff.1 hf).1; omega))
  have := (loss_fit h1 h2).2
  unfold sgl loss
  split <;> omega
theorem lsum_fit {N : Int} {l : List Pip} {fs : List Int} {t v0 : Int} (hg : goodNet N l = true) (hf : goodFl l.length fs = true) (h1 : 1 ≤ v0) (h2 : v0 ≤ N) : ∀ d : Nat, (d : Int) ≤ far l 0 t v0 → -(576000000 * (d : Int)) ≤ lsum l fs (far l 0 t) v0 d ∧ lsum l fs (far l 0 t) v0 d ≤ 576000000 * (d : Int)
  | 0, _ => by simp [lsum]
  | d + 1, h => by
    have ih := lsum_fit (t := t) hg hf h1 h2 d (by omega)
    have hk := (kk_ok (t := t) (j := d) hg h1 h2 (by omega)).1
    have := sgl_fit (v := nod l (far l 0 t) v0 d) hg hf hk
    rw [lsum_succ]
    omega
theorem findQ_at {N : Int} {l : List Pip} {k : Nat} (hg : goodNet N l = true) (hk : k < l.length) : findQ l (pp l k).1 = k :=
  findQ_hit hk rfl (fun j hj => by have := ids_rise hg k j hk hj; omega)

end Go.Proofs.Ytikjighlnpdgiaa

/-
  Heads in a tree, in plain lists: each pipe leads from one level to the next one, each node has one pipe from the level below.
-/
set_option linter.unusedVariables false
set_option linter.unusedSimpArgs false
namespace Go.Proofs.Ytikjighlnpdgiaa
open Go.RowKit

theorem ids_ne {N : Int} {l : List Pip} {i k : Nat} (hg : goodNet N l = true) (hi : i < l.length) (hk : k < l.length) (h : k ≠ i) : (pp l k).1 ≠ (pp l i).1 := by
  by_cases e : k < i
  · have := ids_rise hg i k hi e; omega
  · have := ids_rise hg k i hk (by omega); omega
/-- In a tree no pipe can be spared. -/
theorem tree_spare {N : Int} {l : List Pip} {s : Int} {i : Nat} (hg : goodNet N l = true) (ht : treeB N l = true) (hs : 1 ≤ s ∧ s ≤ N) (hi : i < l.length) (h : ∀ v : Int, 1 ≤ v → v ≤ N → v ≠ s → ∃ k, BackK l 0 s v k ∧ k ≠ i) : False := by
  obtain ⟨h1, h2⟩ := (treeB_iff hg).1 ht
  have hall : ∀ (d : Nat) (v : Int), 1 ≤ v → v ≤ N → far l 0 s v = d → 0 ≤ far l (pp l i).1 s v := by
    intro d
    induction d with
    | zero =>
      intro v v1 v2 hv
      have := (far_is (wo := 0) (s := s) hg).only v v1 v2 (by omega)
      subst this
      rw [far_self hg]
      omega
    | succ d ih =>
      intro v v1 v2 hv
      obtain ⟨k, ⟨hk, -, u, ho, hx, hu⟩, hne⟩ := h v v1 v2 (fun e => by subst e; rw [far_self hg] at hv; omega)
      obtain ⟨⟨u1, u2⟩, -, -, -⟩ := okQ_ends hg hk ho hx
      have := ih u u1 u2 (by omega)
      exact ((far_is (wo := (pp l i).1) (s := s) hg).step u v ⟨k, hk, ids_ne hg hi hk hne, ho, hx⟩ this).1
  have hg' := goodNet_sub (List.eraseIdx_sublist l i) hg
  have hN := (goodNet_get hg).1
  have := (reachL_all (l := l.eraseIdx i) (s := s) (N := N) (by omega)).2 (fun v v1 v2 => by
    unfold Conn
    rw [far_without hg hi]
    have hc : 0 ≤ far l 0 s v := h2 s v hs.1 hs.2 v1 v2
    exact hall (far l 0 s v).toNat v v1 v2 (by omega))
  have hcnt := reach_count (s := s) hg'
  rw [List.length_eraseIdx_of_lt hi] at hcnt
  omega
theorem tree_back {N : Int} {l : List Pip} {s v : Int} (hg : goodNet N l = true) (ht : treeB N l = true) (hs : 1 ≤ s ∧ s ≤ N) (h1 : 1 ≤ v) (h2 : v ≤ N) (hv : v ≠ s) : ∃ k, BackK l 0 s v k := by
  have hc : 0 ≤ far l 0 s v := ((treeB_iff hg).1 ht).2 s v hs.1 hs.2 h1 h2
  refine backK_ex hg h1 h2 ?_
  apply Classical.byContradiction
  intro hn
  exact hv ((far_is (wo := 0) (s := s) hg).only v h1 h2 (by omega))
/-- A node has one pipe from the level below. -/
theorem tree_one {N : Int} {l : List Pip} {s v : Int} {i k : Nat} (hg : goodNet N l = true) (ht : treeB N l = true) (hs : 1 ≤ s ∧ s ≤ N) (hi : BackK l 0 s v i) (hk : BackK l 0 s v k) : i = k := by
  apply Classical.byContradiction
  intro hne
  refine tree_spare hg ht hs hk.1 (fun x x1 x2 hx => ?_)
  by_cases e : x = v
  · subst e; exact ⟨i, hi, hne⟩
  · obtain ⟨m, hm⟩ := tree_back hg ht hs x1 x2 hx
    refine ⟨m, hm, fun e2 => ?_⟩
    subst e2
    exact e (backK_inj hm hk)
/-- Each pipe leads from one level to the next one. -/
theorem tree_level {N : Int} {l : List Pip} {s : Int} {i : Nat} (hg : goodNet N l = true) (ht : treeB N l = true) (hs : 1 ≤ s ∧ s ≤ N) (hi : i < l.length) : BackK l 0 s (pp l i).2.1 i ∨ BackK l 0 s (pp l i).2.2.1 i := by
  apply Classical.byContradiction
  intro hn
  refine tree_spare hg ht hs hi (fun v v1 v2 hv => ?_)
  obtain ⟨k, hk⟩ := tree_back hg ht hs v1 v2 hv
  refine ⟨k, hk, fun e => ?_⟩
  subst e
  obtain ⟨-, -, u, ho, hx, -⟩ := id hk
  rcases oth_ends ho hx with ⟨a, b⟩ | ⟨a, b⟩
  · rw [b] at hk; exact hn (.inr hk)
  · rw [b] at hk; exact hn (.inl hk)

/-- The heads agree with the losses of the pipes. -/
def Agree (l : List Pip) (fs out : List Int) (k : Nat) : Prop := out[(pp l k).2.2.1.toNat - 1]?.getD 0 = out[(pp l k).2.1.toNat - 1]?.getD 0 - loss l fs k
theorem sgl_agree {N : Int} {l : List Pip} {fs out : List Int} {v : Int} {k : Nat} (hg : goodNet N l = true) (hk : k < l.length) (ha : Agree l fs out k) (h0 : 0 < oth (pp l k) v) : out[(oth (pp l k) v).toNat - 1]?.getD 0 = out[v.toNat - 1]?.getD 0 - sgl l fs v k := by
  unfold Agree at ha
  have hne := (goodNet_pipe hg hk).2.2.2.1
  rcases oth_ends rfl h0 with ⟨a, b⟩ | ⟨a, b⟩
  · rw [b, a]
    unfold sgl
    rw [if_pos rfl]
    exact ha
  · rw [b, a]
    unfold sgl
    rw [if_neg (fun e => hne e.symm), ha]
    omega
/-- Where all agree, what is lost along a way is the difference of the heads. -/
theorem lsum_agree {N : Int} {l : List Pip} {fs out : List Int} {t v0 : Int} (hg : goodNet N l = true) (ha : ∀ k, k < l.length → Agree l fs out k) (h1 : 1 ≤ v0) (h2 : v0 ≤ N) : ∀ d : Nat, (d : Int) ≤ far l 0 t v0 → out[(nod l (far l 0 t) v0 d).toNat - 1]?.getD 0 = out[v0.toNat - 1]?.getD 0 - lsum l fs (far l 0 t) v0 d
  | 0, _ => by simp [nod, lsum]
  | d + 1, h => by
    have ih := lsum_agree (t := t) hg ha h1 h2 d (by omega)
    obtain ⟨k1, k2, -⟩ := kk_ok (t := t) (j := d) hg h1 h2 (by omega)
    have := sgl_agree hg k1 (ha _ k1) (stepB_iff.1 k2).1
    rw [nod_succ, this, ih, lsum_succ]
    omega
theorem tree_lev {N : Int} {l : List Pip} {s : Int} {i : Nat} (hg : goodNet N l = true) (ht : treeB N l = true) (hs : 1 ≤ s ∧ s ≤ N) (hi : i < l.length) : (far l 0 s (pp l i).2.2.1 = far l 0 s (pp l i).2.1 + 1 ∧ BackK l 0 s (pp l i).2.2.1 i) ∨ (far l 0 s (pp l i).2.1 = far l 0 s (pp l i).2.2.1 + 1 ∧ BackK l 0 s (pp l i).2.1 i) := by
  have hne := (goodNet_pipe hg hi).2.2.2.1
  rcases tree_level hg ht hs hi with h | h
  · right
    refine ⟨?_, h⟩
    obtain ⟨-, -, u, ho, hx, hu⟩ := h
    rcases oth_ends ho hx with ⟨a, b⟩ | ⟨a, b⟩
    · exact absurd b hne
    · rw [a] at hu; omega
  · left
    refine ⟨?_, h⟩
    obtain ⟨-, -, u, ho, hx, hu⟩ := h
    rcases oth_ends ho hx with ⟨a, b⟩ | ⟨a, b⟩
    · rw [a] at hu; omega
    · exact absurd b.symm hne
/-- The level of a pipe's lower end. -/
def lowK (l : List Pip) (f : Int → Int) (k : Nat) : Int := min (f (pp l k).2.1) (f (pp l k).2.2.1)
/-- What the levels below, and the first pipes of a level, have made agree. -/
structure HeadP (M : Nat) (l : List Pip) (s : Int) (fs : List Int) (head : Int) (st i : Nat) (out : List Int) : Prop where
  len : out.length = M
  src : out[s.toNat - 1]?.getD 0 = head
  ok : ∀ k, k < l.length → (lowK l (far l 0 s) k < st ∨ lowK l (far l 0 s) k = st ∧ k < i) → Agree l fs out k
theorem HeadP.skip {M : Nat} {l : List Pip} {s : Int} {fs out : List Int} {head : Int} {st i : Nat} (hg : goodNet M l = true) (ht : treeB M l = true) (hs : 1 ≤ s ∧ s ≤ M) (hi : i < l.length) (h : HeadP M l s fs head st i out) (hn : ¬ (far l 0 s (pp l i).2.1 = st ∧ far l 0 s (pp l i).2.2.1 = st + 1)) (hn2 : ¬ (far l 0 s (pp l i).2.2.1 = st ∧ far l 0 s (pp l i).2.1 = st + 1)) : HeadP M l s fs head st (i + 1) out := by
  refine ⟨h.len, h.src, fun k hk hd => h.ok k hk ?_⟩
  rcases hd with a | ⟨a, b⟩
  · exact .inl a
  · by_cases e : k = i
    · subst e
      unfold lowK at a
      rcases tree_lev hg ht hs hi with ⟨b1, -⟩ | ⟨b1, -⟩
      · exact absurd ⟨by omega, by omega⟩ hn
      · exact absurd ⟨by omega, by omega⟩ hn2
    · exact .inr ⟨a, by omega⟩
theorem HeadP.put {M : Nat} {l : List Pip} {s : Int} {fs out : List Int} {head y : Int} {st i : Nat} (hg : goodNet M l = true) (ht : treeB M l = true) (hs : 1 ≤ s ∧ s ≤ M) (hi : i < l.length) (h : HeadP M l s fs head st i out) {v : Int} (hv : 1 ≤ v ∧ v ≤ M)
    (hfv : far l 0 s v = st + 1) (hb : BackK l 0 s v i) (hy : Agree l fs (out.set (v.toNat - 1) y) i) : HeadP M l s fs head st (i + 1) (out.set (v.toNat - 1) y) := by
  have hvs : v ≠ s := fun e => by
    subst e
    rw [far_self hg] at hfv
    omega
  refine ⟨by rw [List.length_set]; exact h.len, by rw [List.getElem?_set_ne (by omega)]; exact h.src, fun k hk hd => ?_⟩
  by_cases e : k = i
  · subst e; exact hy
  · have hag := h.ok k hk (by
      rcases hd with a | ⟨a, b⟩
      · exact .inl a
      · exact .inr ⟨a, by omega⟩)
    have hnb : ¬ BackK l 0 s v k := fun hb2 => e (tree_one hg ht hs hb2 hb)
    have p1 := goodNet_pipe hg hk
    have hlow : lowK l (far l 0 s) k ≤ st := by omega
    unfold lowK at hlow
    have nF : (pp l k).2.1 ≠ v := fun e2 => by
      rcases tree_lev hg ht hs hk with ⟨b1, -⟩ | ⟨b1, b2⟩
      · rw [e2] at b1 hlow; omega
      · rw [e2] at b2; exact hnb b2
    have nT : (pp l k).2.2.1 ≠ v := fun e2 => by
      rcases tree_lev hg ht hs hk with ⟨b1, b2⟩ | ⟨b1, -⟩
      · rw [e2] at b2; exact hnb b2
      · rw [e2] at b1 hlow; omega
    unfold Agree at hag ⊢
    rw [List.getElem?_set_ne (by omega), List.getElem?_set_ne (by omega)]
    exact hag
theorem HeadP.next {M : Nat} {l : List Pip} {s : Int} {fs out : List Int} {head : Int} {st : Nat} (h : HeadP M l s fs head st l.length out) : HeadP M l s fs head (st + 1) 0 out :=
  ⟨h.len, h.src, fun k hk hd => h.ok k hk (by omega)⟩
theorem HeadP.start {M : Nat} {l : List Pip} {s : Int} {fs out : List Int} {head : Int} (hg : goodNet M l = true) (ht : treeB M l = true) (hs : 1 ≤ s ∧ s ≤ M) (hl : out.length = M) : HeadP M l s fs head 0 0 (out.set (s.toNat - 1) head) := by
  refine ⟨by rw [List.length_set]; exact hl, by rw [List.getElem?_set_self (by omega)]; rfl, fun k hk hd => ?_⟩
  have p1 := goodNet_pipe hg hk
  have h2 := ((treeB_iff hg).1 ht).2
  have a : 0 ≤ far l 0 s (pp l k).2.1 := h2 s _ hs.1 hs.2 p1.2.1.1 p1.2.1.2
  have b : 0 ≤ far l 0 s (pp l k).2.2.1 := h2 s _ hs.1 hs.2 p1.2.2.1.1 p1.2.2.1.2
  unfold lowK at hd
  omega
/-- When all levels are done, all pipes agree. -/
theorem HeadP.all {M : Nat} {l : List Pip} {s : Int} {fs out : List Int} {head : Int} (hg : goodNet M l = true) (hs : 1 ≤ s ∧ s ≤ M) (h : HeadP M l s fs head M 0 out) : ∀ k, k < l.length → Agree l fs out k := fun k hk => by
  have p1 := goodNet_pipe hg hk
  have := far_lt (wo := 0) (v := (pp l k).2.1) hg hs p1.2.1.1 p1.2.1.2
  refine h.ok k hk (.inl ?_)
  unfold lowK
  omega
/-- The head at a node. -/
theorem HeadP.at {M : Nat} {l : List Pip} {s v : Int} {fs out : List Int} {head : Int} (hg : goodNet M l = true) (ht : treeB M l = true) (hs : 1 ≤ s ∧ s ≤ M) (hv : 1 ≤ v ∧ v ≤ M) (h : HeadP M l s fs head M 0 out) : out[v.toNat - 1]?.getD 0 = head - lsum l fs (far l 0 v) s (far l 0 v s).toNat := by
  have hc : 0 ≤ far l 0 v s := ((treeB_iff hg).1 ht).2 v s hv.1 hv.2 hs.1 hs.2
  have e := lsum_agree (t := v) (v0 := s) hg (h.all hg hs) hs.1 hs.2 (far l 0 v s).toNat (by omega)
  rw [(nod_end (t := v) (v0 := s) (j := (far l 0 v s).toNat) hg hs.1 hs.2 (by omega)).2 (by omega), h.src] at e
  exact e
/-- What the reference gives at a node. -/
noncomputable def headAt (l : List Pip) (fs : List Int) (s head : Int) (v : Int) : Int := head - lsum l fs (far l 0 v) s (far l 0 v s).toNat
noncomputable def headL (l : List Pip) (fs : List Int) (s head : Int) (k : Nat) : List Int := (List.range k).map fun j : Nat => headAt l fs s head ((j : Int) + 1)
theorem headL_succ (l : List Pip) (fs : List Int) (s head : Int) (k : Nat) : headL l fs s head (k + 1) = headL l fs s head k ++ [headAt l fs s head ((k : Int) + 1)] := by simp [headL, List.range_succ]
theorem headL_len (l : List Pip) (fs : List Int) (s head : Int) (k : Nat) : (headL l fs s head k).length = k := by simp [headL]
theorem HeadP.done {M : Nat} {l : List Pip} {s : Int} {fs out : List Int} {head : Int} (hg : goodNet M l = true) (ht : treeB M l = true) (hs : 1 ≤ s ∧ s ≤ M) (h : HeadP M l s fs head M 0 out) : out = headL l fs s head M := by
  apply List.ext_getElem?
  intro j
  by_cases hj : j < M
  · have e := h.at (v := (j : Int) + 1) hg ht hs (by omega)
    have e2 : ((j : Int) + 1).toNat - 1 = j := by omega
    rw [e2, List.getElem?_eq_getElem (by rw [h.len]; exact hj)] at e
    rw [List.getElem?_eq_getElem (by rw [h.len]; exact hj), List.getElem?_eq_getElem (by rw [headL_len]; exact hj)]
    simp only [Option.getD_some] at e
    rw [e]
    simp [headL, headAt]
  · rw [List.getElem?_eq_none (by rw [h.len]; omega), List.getElem?_eq_none (by rw [headL_len]; omega)]

end Go.Proofs.Ytikjighlnpdgiaa

/-
  The loop of a ring, plain: the pipes whose ends are joined without them, and the way round.
-/
set_option linter.unusedVariables false
set_option linter.unusedSimpArgs false
namespace Go.Proofs.Ytikjighlnpdgiaa
open Go.RowKit

theorem far_iff {l : List Pip} {wo u v : Int} : 0 ≤ far l wo u v ↔ ∃ n, Way l wo u n v := by
  constructor
  · intro h
    obtain ⟨m, -, hw, -⟩ := far_some h
    exact ⟨m, hw⟩
  · rintro ⟨n, hn⟩
    obtain ⟨m, -, e, -⟩ := far_way hn
    omega
theorem far_symm {N : Int} {l : List Pip} {wo u v : Int} (hg : goodNet N l = true) (h : 0 ≤ far l wo u v) : 0 ≤ far l wo v u := by
  rw [far_iff] at h ⊢
  obtain ⟨n, hn⟩ := h
  exact ⟨n, way_symm hg n v hn⟩
theorem far_trans {l : List Pip} {wo u v x : Int} (h : 0 ≤ far l wo u v) (k : 0 ≤ far l wo v x) : 0 ≤ far l wo u x := by
  rw [far_iff] at h k ⊢
  obtain ⟨n, hn⟩ := h
  obtain ⟨m, hm⟩ := k
  exact way_trans hn m x hm

/-- Whether the ends of a pipe are joined without it. -/
noncomputable def onL (l : List Pip) (i : Nat) : Bool := decide (0 ≤ far l (pp l i).1 (pp l i).2.1 (pp l i).2.2.1)
theorem onL_iff {l : List Pip} {i : Nat} : onL l i = true ↔ 0 ≤ far l (pp l i).1 (pp l i).2.1 (pp l i).2.2.1 := by simp [onL]
/-- The first pipe of the loop. -/
noncomputable def firstL (l : List Pip) : Nat := (List.range l.length).findIdx (onL l)
theorem firstL_hit {l : List Pip} {k : Nat} (hk : k < l.length) (h : onL l k = true) (hm : ∀ j, j < k → onL l j = false) : firstL l = k := by
  unfold firstL
  rw [List.findIdx_eq (by simpa using hk)]
  refine ⟨by simpa using h, fun j hj => by simpa using hm j hj⟩
theorem firstL_ok {l : List Pip} (h : ∃ k, k < l.length ∧ onL l k = true) : firstL l < l.length ∧ onL l (firstL l) = true ∧ ∀ j, j < firstL l → onL l j = false := by
  obtain ⟨m, ⟨hm, hs⟩, hl⟩ := least h
  have e := firstL_hit hm hs (fun j hj => by
    cases e : onL l j
    · rfl
    · exact absurd ⟨by omega, e⟩ (hl j hj))
  rw [e]
  refine ⟨hm, hs, fun j hj => ?_⟩
  cases e2 : onL l j
  · rfl
  · exact absurd ⟨by omega, e2⟩ (hl j hj)

theorem ringB_iff {M : Nat} {l : List Pip} (hg : goodNet M l = true) : ringB M l = true ↔ l.length = M ∧ ∀ v : Int, 1 ≤ v → v ≤ M → Conn l 1 v := by
  unfold ringB
  rw [Bool.and_eq_true, decide_eq_true_eq, decide_eq_true_eq, reachL_all (by omega)]
  constructor
  · rintro ⟨a, b⟩; exact ⟨by omega, b⟩
  · rintro ⟨a, b⟩; exact ⟨by omega, b⟩
theorem ring_conn {M : Nat} {l : List Pip} (hg : goodNet M l = true) (hr : ringB M l = true) {u v : Int} (u1 : 1 ≤ u) (u2 : u ≤ M) (v1 : 1 ≤ v) (v2 : v ≤ M) : Conn l u v :=
  (((ringB_iff hg).1 hr).2 u u1 u2).symm hg |>.trans (((ringB_iff hg).1 hr).2 v v1 v2)

/-- Without a pipe that is not needed for any node all nodes stay joined. -/
theorem spare_conn {N : Int} {l : List Pip} {s : Int} {i : Nat} (hg : goodNet N l = true) (hc : ∀ v : Int, 1 ≤ v → v ≤ N → Conn l s v) (hs : 1 ≤ s ∧ s ≤ N) (hi : i < l.length) (h : ∀ v : Int, 1 ≤ v → v ≤ N → v ≠ s → ∃ k, BackK l 0 s v k ∧ k ≠ i) : ∀ v : Int, 1 ≤ v → v ≤ N → 0 ≤ far l (pp l i).1 s v := by
  have hall : ∀ (d : Nat) (v : Int), 1 ≤ v → v ≤ N → far l 0 s v = d → 0 ≤ far l (pp l i).1 s v := by
    intro d
    induction d with
    | zero =>
      intro v v1 v2 hv
      have := (far_is (wo := 0) (s := s) hg).only v v1 v2 (by omega)
      subst this
      rw [far_self hg]
      omega
    | succ d ih =>
      intro v v1 v2 hv
      obtain ⟨k, ⟨hk, -, u, ho, hx, hu⟩, hne⟩ := h v v1 v2 (fun e => by subst e; rw [far_self hg] at hv; omega)
      obtain ⟨⟨u1, u2⟩, -, -, -⟩ := okQ_ends hg hk ho hx
      have := ih u u1 u2 (by omega)
      exact ((far_is (wo := (pp l i).1) (s := s) hg).step u v ⟨k, hk, ids_ne hg hi hk hne, ho, hx⟩ this).1
  intro v v1 v2
  have : 0 ≤ far l 0 s v := hc v v1 v2
  exact hall (far l 0 s v).toNat v v1 v2 (by omega)

theorem far_pos {N : Int} {l : List Pip} {s v : Int} (hg : goodNet N l = true) (hc : ∀ v : Int, 1 ≤ v → v ≤ N → Conn l s v) (v1 : 1 ≤ v) (v2 : v ≤ N) (hv : v ≠ s) : 0 < far l 0 s v := by
  have h0 : 0 ≤ far l 0 s v := hc v v1 v2
  apply Classical.byContradiction
  intro h4
  exact hv ((far_is (wo := 0) (s := s) hg).only v v1 v2 (by omega))
theorem ring_on {M : Nat} {l : List Pip} (hg : goodNet M l = true) (hr : ringB M l = true) : ∃ k, k < l.length ∧ onL l k = true := by
  obtain ⟨hl, hc⟩ := (ringB_iff hg).1 hr
  have hM := (goodNet_get hg).1
  apply Classical.byContradiction
  intro hn
  have key : ∀ i : Int, ∃ v : Int, (0 ≤ i ∧ i < l.length) → (2 ≤ v ∧ v ≤ M) ∧ ∀ k, BackK l 0 1 v k → k = i.toNat := by
    intro i
    apply Classical.byContradiction
    intro hx
    have hx' : ∀ v : Int, (0 ≤ i ∧ i < l.length) ∧ ¬ ((2 ≤ v ∧ v ≤ M) ∧ ∀ k, BackK l 0 1 v k → k = i.toNat) := by
      intro v
      apply Classical.byContradiction
      intro h2
      refine hx ⟨v, fun hi => ?_⟩
      apply Classical.byContradiction
      intro h3
      exact h2 ⟨hi, h3⟩
    have hi := (hx' 0).1
    have hsp := spare_conn (i := i.toNat) hg hc ⟨by omega, by omega⟩ (by omega) (fun v v1 v2 hv => by
      apply Classical.byContradiction
      intro h5
      refine (hx' v).2 ⟨⟨by omega, v2⟩, fun k hk => ?_⟩
      apply Classical.byContradiction
      intro h6
      exact h5 ⟨k, hk, h6⟩)
    obtain ⟨-, p1, p2, -, -⟩ := goodNet_pipe hg (show i.toNat < l.length by omega)
    exact hn ⟨i.toNat, by omega, onL_iff.2 (far_trans (far_symm hg (hsp _ p1.1 p1.2)) (hsp _ p2.1 p2.2))⟩
  let A : List Int := (List.range l.length).map fun k : Nat => (k : Int)
  have hA : A.Nodup := by
    show List.Nodup ((List.range l.length).map fun k : Nat => (k : Int))
    unfold List.Nodup
    rw [List.pairwise_map]
    exact List.Pairwise.imp (fun h => by omega) (List.pairwise_lt_range)
  have hm : ∀ x ∈ A, 0 ≤ x ∧ x < l.length := by
    intro x hx
    obtain ⟨k, hk, rfl⟩ := List.mem_map.1 hx
    have := List.mem_range.1 hk
    omega
  have hM1 : 0 < M := by omega
  have := inj_len hA (n := M - 1) (fun x => (Classical.choose (key x)).toNat - 2) (fun x hx => by
      have := (Classical.choose_spec (key x) (hm x hx)).1
      show (Classical.choose (key x)).toNat - 2 < M - 1
      omega) (fun x hx y hy e => by
      obtain ⟨a1, a2⟩ := Classical.choose_spec (key x) (hm x hx)
      obtain ⟨b1, b2⟩ := Classical.choose_spec (key y) (hm y hy)
      have e' : (Classical.choose (key x)).toNat - 2 = (Classical.choose (key y)).toNat - 2 := e
      have e2 : Classical.choose (key x) = Classical.choose (key y) := by omega
      obtain ⟨k, hk⟩ := backK_ex hg (by omega) a1.2 (far_pos hg hc (by omega) a1.2 (by omega))
      have c := a2 k hk
      rw [e2] at hk
      have d := b2 k hk
      have := hm x hx
      have := hm y hy
      omega)
  have hlen : A.length = l.length := by show ((List.range l.length).map fun k : Nat => (k : Int)).length = _; simp
  omega

/-- Without a pipe of the loop a ring is a tree. -/
theorem ring_tree {M : Nat} {l : List Pip} {i : Nat} (hg : goodNet M l = true) (hr : ringB M l = true) (hi : i < l.length) (ho : onL l i = true) : treeB M (l.eraseIdx i) = true := by
  obtain ⟨hl, hc⟩ := (ringB_iff hg).1 hr
  have hg' := goodNet_sub (List.eraseIdx_sublist l i) hg
  refine (treeB_iff hg').2 ⟨by rw [List.length_eraseIdx_of_lt hi]; omega, fun u v u1 u2 v1 v2 => ?_⟩
  unfold Conn
  rw [far_without hg hi]
  have h1 := onL_iff.1 ho
  exact all_without hg hi ⟨u1, u2⟩ (fun v v1 v2 => ring_conn hg hr u1 u2 v1 v2) ⟨fun h => far_trans h h1, fun h => far_trans h (far_symm hg h1)⟩ v v1 v2

/-- A place behind the one left out, in the whole list. -/
def up (i0 k : Nat) : Nat := if k < i0 then k else k + 1
theorem pp_up (l : List Pip) (i0 k : Nat) : pp (l.eraseIdx i0) k = pp l (up i0 k) := by
  unfold pp up
  rw [List.getElem?_eraseIdx]
  split <;> rfl

/-- A way round through the nodes v, by the pipes q and i0. -/
structure Loop (M : Nat) (l : List Pip) (i0 d : Nat) (v : Nat → Int) (q : Nat → Nat) : Prop where
  lt0 : i0 < l.length
  v0 : v 0 = (pp l i0).2.2.1
  vd : v d = (pp l i0).2.1
  vin : ∀ j, j ≤ d → 1 ≤ v j ∧ v j ≤ M
  vinj : ∀ j k, j ≤ d → k ≤ d → v j = v k → j = k
  qlt : ∀ j, j < d → q j < l.length
  qne : ∀ j, j < d → q j ≠ i0
  qst : ∀ j, j < d → oth (pp l (q j)) (v j) = v (j + 1)
theorem Loop.ends {M : Nat} {l : List Pip} {i0 d : Nat} {v : Nat → Int} {q : Nat → Nat} (h : Loop M l i0 d v q) {j : Nat} (hj : j < d) : (v j = (pp l (q j)).2.1 ∧ v (j + 1) = (pp l (q j)).2.2.1) ∨ (v j = (pp l (q j)).2.2.1 ∧ v (j + 1) = (pp l (q j)).2.1) :=
  oth_ends (h.qst j hj) (by have := h.vin (j + 1) (by omega); omega)
theorem Loop.qinj {M : Nat} {l : List Pip} {i0 d : Nat} {v : Nat → Int} {q : Nat → Nat} (h : Loop M l i0 d v q) {j k : Nat} (hj : j < d) (hk : k < d) (e : q j = q k) : j = k := by
  have a := h.ends hj
  have b := h.ends hk
  rw [e] at a
  rcases a with ⟨a1, a2⟩ | ⟨a1, a2⟩ <;> rcases b with ⟨b1, b2⟩ | ⟨b1, b2⟩
  · exact h.vinj j k (by omega) (by omega) (by omega)
  · have c := h.vinj j (k + 1) (by omega) (by omega) (by omega)
    have d := h.vinj (j + 1) k (by omega) (by omega) (by omega)
    omega
  · have c := h.vinj j (k + 1) (by omega) (by omega) (by omega)
    have d := h.vinj (j + 1) k (by omega) (by omega) (by omega)
    omega
  · exact h.vinj j k (by omega) (by omega) (by omega)
theorem Loop.part {M : Nat} {l m : List Pip} {wo : Int} {i0 d : Nat} {v : Nat → Int} {q : Nat → Nat} (h : Loop M l i0 d v q) {a b : Nat} (he : ∀ j, a ≤ j → j < b → Edge m wo (v j) (v (j + 1))) : ∀ n, a + n ≤ b → Way m wo (v a) n (v (a + n))
  | 0, _ => rfl
  | n + 1, hn => ⟨v (a + n), h.part he n (by omega), he (a + n) (by omega) (by omega)⟩

/-- The pipes of the way round, and no others, lie on the loop. -/
theorem Loop.on {M : Nat} {l : List Pip} {i0 d : Nat} {v : Nat → Int} {q : Nat → Nat} (hg : goodNet M l = true) (hr : ringB M l = true) (h : Loop M l i0 d v q) (ho : onL l i0 = true) {i : Nat} (hi : i < l.length) : onL l i = true ↔ i = i0 ∨ ∃ j, j < d ∧ i = q j := by
  constructor
  · intro h1
    apply Classical.byContradiction
    intro hn
    have hn1 : i ≠ i0 := fun e => hn (.inl e)
    have hn2 : ∀ j, j < d → i ≠ q j := fun j hj e => hn (.inr ⟨j, hj, e⟩)
    have hg' := goodNet_sub (List.eraseIdx_sublist l i) hg
    have ht := ring_tree hg hr hi h1
    have hmem : pp l i0 ∈ l.eraseIdx i := (mem_without hg hi).2 ⟨pp_mem h.lt0, ids_ne hg hi h.lt0 (fun e => hn1 e.symm)⟩
    obtain ⟨k, hk, hk2⟩ := List.mem_iff_getElem.1 hmem
    have hpk : pp (l.eraseIdx i) k = pp l i0 := by rw [pp_get hk]; exact hk2
    have v0 := h.vin 0 (by omega)
    have hb := tree_bridge (s := v 0) hg' ht v0 hk
    rw [hpk, ← h.v0, ← h.vd, far_self hg'] at hb
    have hw : Way (l.eraseIdx i) (pp l i0).1 (v 0) d (v (0 + d)) := h.part (b := d) (fun j _ hj => edge_mem.2 ⟨pp l (q j), (mem_without hg hi).2 ⟨pp_mem (h.qlt j hj), ids_ne hg hi (h.qlt j hj) (fun e => hn2 j hj e.symm)⟩, ids_ne hg h.lt0 (h.qlt j hj) (h.qne j hj), h.qst j hj, by have := h.vin (j + 1) (by omega); omega⟩) d (by omega)
    rw [Nat.zero_add] at hw
    exact (hb.1 (far_iff.2 ⟨d, hw⟩)) (by omega)
  · rintro (rfl | ⟨j, hj, rfl⟩)
    · exact ho
    · rw [onL_iff]
      have he : ∀ k, k < d → k ≠ j → Edge l (pp l (q j)).1 (v k) (v (k + 1)) := fun k hk hkj => ⟨q k, h.qlt k hk, ids_ne hg (h.qlt j hj) (h.qlt k hk) (fun e => hkj (h.qinj hk hj e)), h.qst k hk, by have := h.vin (k + 1) (by omega); omega⟩
      have w1 := h.part (a := 0) (b := j) (m := l) (wo := (pp l (q j)).1) (fun k _ hk => he k (by omega) (by omega)) j (by omega)
      have w2 := h.part (a := j + 1) (b := d) (m := l) (wo := (pp l (q j)).1) (fun k hk1 hk => he k (by omega) (by omega)) (d - (j + 1)) (by omega)
      rw [Nat.zero_add] at w1
      rw [show j + 1 + (d - (j + 1)) = d by omega] at w2
      have w3 : Way l (pp l (q j)).1 (v d) 1 (v 0) := ⟨v d, rfl, i0, h.lt0, ids_ne hg (h.qlt j hj) h.lt0 (fun e => h.qne j hj e.symm), by rw [h.vd, h.v0]; simp [oth], by have := h.vin 0 (by omega); omega⟩
      have a := far_trans (far_iff.2 ⟨_, w2⟩) (far_trans (far_iff.2 ⟨_, w3⟩) (far_iff.2 ⟨_, w1⟩))
      rcases h.ends hj with ⟨e1, e2⟩ | ⟨e1, e2⟩
      · rw [← e1, ← e2]; exact far_symm hg a
      · rw [← e1, ← e2]; exact a

/-- The way round, by the way in the tree that is left. -/
theorem loop_is {M : Nat} {l : List Pip} {i0 : Nat} (hg : goodNet M l = true) (hr : ringB M l = true) (hi : i0 < l.length) (ho : onL l i0 = true) : ∃ d : Nat, far (l.eraseIdx i0) 0 (pp l i0).2.1 (pp l i0).2.2.1 = d ∧ Loop M l i0 d (nod (l.eraseIdx i0) (far (l.eraseIdx i0) 0 (pp l i0).2.1) (pp l i0).2.2.1) (fun j => up i0 (kk (l.eraseIdx i0) (far (l.eraseIdx i0) 0 (pp l i0).2.1) (pp l i0).2.2.1 j)) := by
  have hg' := goodNet_sub (List.eraseIdx_sublist l i0) hg
  obtain ⟨-, p1, p2, -, -⟩ := goodNet_pipe hg hi
  have h0 : 0 ≤ far (l.eraseIdx i0) 0 (pp l i0).2.1 (pp l i0).2.2.1 := by rw [far_without hg hi]; exact onL_iff.1 ho
  have hd : far (l.eraseIdx i0) 0 (pp l i0).2.1 (pp l i0).2.2.1 = ((far (l.eraseIdx i0) 0 (pp l i0).2.1 (pp l i0).2.2.1).toNat : Nat) := by omega
  have hlen : (l.eraseIdx i0).length = l.length - 1 := List.length_eraseIdx_of_lt hi
  refine ⟨_, hd, hi, rfl, ?_, ?_, ?_, ?_, ?_, ?_⟩
  · exact (nod_end (t := (pp l i0).2.1) hg' p2.1 p2.2 (by omega)).2 (by omega)
  · exact fun j hj => (nod_ok (t := (pp l i0).2.1) hg' p2.1 p2.2 j (by omega)).1
  · intro j k hj hk e
    have a := (nod_ok (t := (pp l i0).2.1) hg' p2.1 p2.2 j (by omega)).2
    have b := (nod_ok (t := (pp l i0).2.1) hg' p2.1 p2.2 k (by omega)).2
    rw [e] at a
    omega
  · intro j hj
    have := (kk_ok (t := (pp l i0).2.1) (j := j) hg' p2.1 p2.2 (by omega)).1
    show up i0 _ < _
    unfold up
    split <;> omega
  · intro j hj
    show up i0 _ ≠ _
    unfold up
    split <;> omega
  · intro j hj
    show oth (pp l (up i0 _)) _ = _
    rw [← pp_up, nod_succ]

/-- The sign of a pipe of the way, and the row of signs. -/
def sgn (l : List Pip) (v : Nat → Int) (q : Nat → Nat) (j : Nat) : Int := if (pp l (q j)).2.1 = v j then 1 else -1
def sigs (l : List Pip) (i0 : Nat) (v : Nat → Int) (q : Nat → Nat) : Nat → List Int
  | 0 => (List.replicate l.length 0).set i0 1
  | j + 1 => (sigs l i0 v q j).set (q j) (sgn l v q j)
theorem sigs_len (l : List Pip) (i0 : Nat) (v : Nat → Int) (q : Nat → Nat) : ∀ j, (sigs l i0 v q j).length = l.length
  | 0 => by simp [sigs]
  | j + 1 => by unfold sigs; rw [List.length_set, sigs_len l i0 v q j]
theorem sgn_one (l : List Pip) (v : Nat → Int) (q : Nat → Nat) (j : Nat) : sgn l v q j = 1 ∨ sgn l v q j = -1 := by unfold sgn; split <;> simp
theorem set_at {L : List Int} {k i : Nat} {x : Int} (hi : i < L.length) : (L.set k x)[i]?.getD 0 = if k = i then x else L[i]?.getD 0 := by
  rw [List.getElem?_set]
  split
  · rename_i h; subst h; rw [if_pos hi]; rfl
  · rfl
theorem sigs_zero (l : List Pip) (i0 : Nat) (v : Nat → Int) (q : Nat → Nat) {i : Nat} (hi : i < l.length) : ∀ j, (sigs l i0 v q j)[i]?.getD 0 = 0 ↔ i ≠ i0 ∧ ∀ k, k < j → i ≠ q k
  | 0 => by
    unfold sigs
    rw [set_at (by simpa using hi)]
    split
    · rename_i h
      exact ⟨fun e => by omega, fun e => absurd h.symm e.1⟩
    · rename_i h
      exact ⟨fun _ => ⟨fun e => h e.symm, fun k hk => by omega⟩, fun _ => by simp [hi]⟩
  | j + 1 => by
    have ih := sigs_zero l i0 v q hi j
    unfold sigs
    rw [set_at (by rw [sigs_len]; exact hi)]
    split
    · rename_i h
      refine ⟨fun e => ?_, fun e => absurd h.symm (e.2 j (by omega))⟩
      rcases sgn_one l v q j with e1 | e1 <;> omega
    · rename_i h
      rw [ih]
      constructor
      · rintro ⟨a, b⟩
        refine ⟨a, fun k hk => ?_⟩
        by_cases e : k = j
        · subst e; exact fun e => h e.symm
        · exact b k (by omega)
      · rintro ⟨a, b⟩
        exact ⟨a, fun k hk => b k (by omega)⟩
theorem sigs_fit (l : List Pip) (i0 : Nat) (v : Nat → Int) (q : Nat → Nat) {i : Nat} (hi : i < l.length) : ∀ j, -1 ≤ (sigs l i0 v q j)[i]?.getD 0 ∧ (sigs l i0 v q j)[i]?.getD 0 ≤ 1
  | 0 => by
    unfold sigs
    rw [set_at (by simpa using hi)]
    split
    · decide
    · simp [hi]
  | j + 1 => by
    have ih := sigs_fit l i0 v q hi j
    unfold sigs
    rw [set_at (by rw [sigs_len]; exact hi)]
    split
    · rcases sgn_one l v q j with e1 | e1 <;> omega
    · exact ih
/-- The one pipe of the loop that goes on from a node. -/
theorem Loop.pick {M : Nat} {l : List Pip} {i0 d : Nat} {v : Nat → Int} {q : Nat → Nat} (hg : goodNet M l = true) (hr : ringB M l = true) (h : Loop M l i0 d v q) (ho : onL l i0 = true) {i j : Nat} (hi : i < l.length) (hj : j < d) (hon : onL l i = true) : (¬ (sigs l i0 v q j)[i]?.getD 0 = 0 ∨ oth (pp l i) (v j) = 0) ↔ i ≠ q j := by
  rw [sigs_zero l i0 v q hi]
  constructor
  · rintro hx rfl
    rcases hx with hx | hx
    · exact hx ⟨h.qne j hj, fun k hk e => by have := h.qinj hj (by omega) e; omega⟩
    · rw [h.qst j hj] at hx
      have := h.vin (j + 1) (by omega)
      omega
  · intro hne
    rcases (h.on hg hr ho hi).1 hon with rfl | ⟨k, hk, rfl⟩
    · exact .inl (fun e => e.1 rfl)
    · by_cases hkj : k < j
      · exact .inl (fun e => e.2 k hkj rfl)
      · right
        have hkj2 : j < k := by
          apply Classical.byContradiction
          intro h2
          exact hne (by rw [show k = j by omega])
        unfold oth
        rcases h.ends hk with ⟨e1, e2⟩ | ⟨e1, e2⟩
        · rw [if_neg (fun e => by have := h.vinj j k (by omega) (by omega) (by omega); omega), if_neg (fun e => by have := h.vinj j (k + 1) (by omega) (by omega) (by omega); omega)]
        · rw [if_neg (fun e => by have := h.vinj j (k + 1) (by omega) (by omega) (by omega); omega), if_neg (fun e => by have := h.vinj j k (by omega) (by omega) (by omega); omega)]

/-- The signs of all pipes of a ring. -/
noncomputable def loopS (l : List Pip) : List Int :=
  sigs l (firstL l) (nod (l.eraseIdx (firstL l)) (far (l.eraseIdx (firstL l)) 0 (pp l (firstL l)).2.1) (pp l (firstL l)).2.2.1)
    (fun j => up (firstL l) (kk (l.eraseIdx (firstL l)) (far (l.eraseIdx (firstL l)) 0 (pp l (firstL l)).2.1) (pp l (firstL l)).2.2.1 j))
    (far (l.eraseIdx (firstL l)) 0 (pp l (firstL l)).2.1 (pp l (firstL l)).2.2.1).toNat
theorem loopS_len (l : List Pip) : (loopS l).length = l.length := sigs_len _ _ _ _ _
theorem loopS_fit (l : List Pip) {i : Nat} (hi : i < l.length) : -1 ≤ (loopS l)[i]?.getD 0 ∧ (loopS l)[i]?.getD 0 ≤ 1 := sigs_fit _ _ _ _ hi _
/-- A pipe has a sign where it lies on the loop. -/
theorem loopS_on {M : Nat} {l : List Pip} {i : Nat} (hg : goodNet M l = true) (hr : ringB M l = true) (hi : i < l.length) : (loopS l)[i]?.getD 0 = 0 ↔ onL l i = false := by
  obtain ⟨h1, h2, h3⟩ := firstL_ok (ring_on hg hr)
  obtain ⟨d, hd, hl⟩ := loop_is hg hr h1 h2
  have e : (far (l.eraseIdx (firstL l)) 0 (pp l (firstL l)).2.1 (pp l (firstL l)).2.2.1).toNat = d := by omega
  unfold loopS
  rw [sigs_zero _ _ _ _ hi, e, ← Bool.not_eq_true, hl.on hg hr h2 hi]
  constructor
  · rintro ⟨a, b⟩ (c | ⟨j, hj, c⟩)
    · exact a c
    · exact b j hj c
  · intro a
    exact ⟨fun e => a (.inl e), fun k hk e => a (.inr ⟨k, hk, e⟩)⟩

/-- The pipes of the loop among the first. -/
noncomputable def onsL (l : List Pip) : Nat → List Int
  | 0 => []
  | k + 1 => if onL l k = true then onsL l k ++ [(k : Int)] else onsL l k
theorem onsL_yes {l : List Pip} {k : Nat} (h : onL l k = true) : onsL l (k + 1) = onsL l k ++ [(k : Int)] := by rw [onsL, if_pos h]
theorem onsL_no {l : List Pip} {k : Nat} (h : onL l k = false) : onsL l (k + 1) = onsL l k := by rw [onsL, if_neg (by simp [h])]
theorem onsL_len (l : List Pip) : ∀ k, (onsL l k).length ≤ k
  | 0 => Nat.le_refl _
  | k + 1 => by
    have := onsL_len l k
    unfold onsL
    split <;> simp <;> omega
theorem mem_onsL {l : List Pip} {x : Int} : ∀ {k : Nat}, x ∈ onsL l k ↔ ∃ i : Nat, i < k ∧ x = i ∧ onL l i = true
  | 0 => by simp [onsL]
  | k + 1 => by
    cases h : onL l k
    · rw [onsL_no h, mem_onsL]
      constructor
      · rintro ⟨i, a, b, c⟩; exact ⟨i, by omega, b, c⟩
      · rintro ⟨i, a, b, c⟩
        by_cases e : i = k
        · subst e; rw [h] at c; cases c
        · exact ⟨i, by omega, b, c⟩
    · rw [onsL_yes h, List.mem_append, mem_onsL, List.mem_singleton]
      constructor
      · rintro (⟨i, a, b, c⟩ | e)
        · exact ⟨i, by omega, b, c⟩
        · exact ⟨k, by omega, e, h⟩
      · rintro ⟨i, a, b, c⟩
        by_cases e : i = k
        · subst e; exact .inr b
        · exact .inl ⟨i, by omega, b, c⟩
theorem onsL_first {l : List Pip} {i0 : Nat} (h : onL l i0 = true) (hm : ∀ j, j < i0 → onL l j = false) : ∀ k : Nat, (i0 < k → 0 < (onsL l k).length ∧ (onsL l k)[0]?.getD 0 = (i0 : Int)) ∧ (k ≤ i0 → onsL l k = [])
  | 0 => ⟨fun h => by omega, fun _ => rfl⟩
  | k + 1 => by
    obtain ⟨a, b⟩ := onsL_first h hm k
    refine ⟨fun hk => ?_, fun hk => ?_⟩
    · by_cases e : k = i0
      · subst e
        rw [onsL_yes h, b (Nat.le_refl _)]
        simp
      · obtain ⟨a1, a2⟩ := a (by omega)
        cases h2 : onL l k
        · rw [onsL_no h2]; exact ⟨a1, a2⟩
        · rw [onsL_yes h2, List.getElem?_append_left a1]
          exact ⟨by rw [List.length_append]; omega, a2⟩
    · rw [onsL_no (hm k (by omega))]
      exact b (by omega)

/-- A ring's first pipe of the loop, and the way round. -/
theorem loop_data {M : Nat} {l : List Pip} (hg : goodNet M l = true) (hr : ringB M l = true) : ∃ (i0 d : Nat) (v : Nat → Int) (q : Nat → Nat), Loop M l i0 d v q ∧ onL l i0 = true ∧ (∀ j, j < i0 → onL l j = false) ∧ loopS l = sigs l i0 v q d ∧ far (l.eraseIdx i0) 0 (pp l i0).2.1 (pp l i0).2.2.1 = d ∧ ∀ j, j < d → (wids (l.eraseIdx i0) (far (l.eraseIdx i0) 0 (pp l i0).2.1) (pp l i0).2.2.1 d)[j]?.getD 0 = (pp l (q j)).1 := by
  obtain ⟨h1, h2, h3⟩ := firstL_ok (ring_on hg hr)
  obtain ⟨d, hd, hl⟩ := loop_is hg hr h1 h2
  have e : (far (l.eraseIdx (firstL l)) 0 (pp l (firstL l)).2.1 (pp l (firstL l)).2.2.1).toNat = d := by omega
  refine ⟨_, d, _, _, hl, h2, h3, by unfold loopS; rw [e], hd, fun j hj => ?_⟩
  rw [wids_get _ _ _ hj, pp_up]

end Go.Proofs.Ytikjighlnpdgiaa

/-
  The reference's steps, in plain lists: level by level.
-/
set_option linter.unusedVariables false
set_option linter.unusedSimpArgs false
namespace Go.Proofs.Ytikjighlnpdgiaa
open Go.RowKit

/-- A pipe joins a node with one of a level. -/
def HitP (l : List Pip) (f : Int → Int) (st : Nat) (v : Int) (j : Nat) : Prop := (v = (pp l j).2.1 ∧ f (pp l j).2.2.1 = st) ∨ (v = (pp l j).2.2.1 ∧ f (pp l j).2.1 = st)
/-- What the row holds at a node within a level. -/
noncomputable def lev (l : List Pip) (f : Int → Int) (st i : Nat) (v : Int) : Int := by
  classical
  exact if 0 ≤ f v ∧ f v ≤ st then f v else if f v = st + 1 ∧ ∃ j, j < i ∧ HitP l f st v j then st + 1 else -1
theorem lev_in {l : List Pip} {f : Int → Int} {st i : Nat} {v : Int} (h : 0 ≤ f v ∧ f v ≤ st) : lev l f st i v = f v := by unfold lev; rw [if_pos h]
theorem lev_hit {l : List Pip} {f : Int → Int} {st i : Nat} {v : Int} (h1 : f v = st + 1) (h2 : ∃ j, j < i ∧ HitP l f st v j) : lev l f st i v = st + 1 := by
  unfold lev
  rw [if_neg (by omega), if_pos ⟨h1, h2⟩]
theorem lev_out {l : List Pip} {f : Int → Int} {st i : Nat} {v : Int} (h1 : ¬ (0 ≤ f v ∧ f v ≤ st)) (h2 : ¬ (f v = st + 1 ∧ ∃ j, j < i ∧ HitP l f st v j)) : lev l f st i v = -1 := by
  unfold lev
  rw [if_neg h1, if_neg h2]
theorem lev_eq_st {l : List Pip} {f : Int → Int} {st i : Nat} {v : Int} : lev l f st i v = st ↔ f v = st := by
  by_cases h1 : 0 ≤ f v ∧ f v ≤ st
  · rw [lev_in h1]
  · by_cases h2 : f v = st + 1 ∧ ∃ j, j < i ∧ HitP l f st v j
    · rw [lev_hit h2.1 h2.2]; omega
    · rw [lev_out h1 h2]; omega
theorem lev_same {l : List Pip} {f : Int → Int} {st i : Nat} {v : Int} (h : f v = st + 1 → HitP l f st v i → ∃ j, j < i ∧ HitP l f st v j) : lev l f st (i + 1) v = lev l f st i v := by
  by_cases h1 : 0 ≤ f v ∧ f v ≤ st
  · rw [lev_in h1, lev_in h1]
  · by_cases h2 : f v = st + 1 ∧ ∃ j, j < i ∧ HitP l f st v j
    · obtain ⟨a, j, b, c⟩ := h2
      rw [lev_hit a ⟨j, b, c⟩, lev_hit a ⟨j, by omega, c⟩]
    · rw [lev_out h1 h2, lev_out h1]
      rintro ⟨a, j, b, c⟩
      apply h2
      by_cases e : j = i
      · subst e; exact ⟨a, h a c⟩
      · exact ⟨a, j, by omega, c⟩

structure Row (M : Nat) (l : List Pip) (f : Int → Int) (st i : Nat) (L : List Int) : Prop where
  len : L.length = M + 1
  zero : L[0]?.getD 0 = -1
  at' : ∀ v : Nat, 1 ≤ v → v ≤ M → L[v]?.getD 0 = lev l f st i v
theorem Row.no {M : Nat} {l : List Pip} {f : Int → Int} {st i : Nat} {L : List Int} (h : Row M l f st i L) {a b : Nat} (ha : (pp l i).2.1 = a) (hb : (pp l i).2.2.1 = b) (ha1 : 1 ≤ a ∧ a ≤ M) (hb1 : 1 ≤ b ∧ b ≤ M)
    (h1 : L[a]?.getD 0 = st → ¬ L[b]?.getD 0 < 0) (h2 : L[b]?.getD 0 = st → ¬ L[a]?.getD 0 < 0) : Row M l f st (i + 1) L := by
  refine ⟨h.len, h.zero, fun v hv1 hv2 => ?_⟩
  rw [h.at' v hv1 hv2]
  symm
  apply lev_same
  intro hf hp
  apply Classical.byContradiction
  intro hn
  have hout : lev l f st i v = -1 := lev_out (by omega) (fun e => hn e.2)
  rw [h.at' a ha1.1 ha1.2, h.at' b hb1.1 hb1.2, lev_eq_st] at h1
  rw [h.at' a ha1.1 ha1.2, h.at' b hb1.1 hb1.2, lev_eq_st] at h2
  rcases hp with ⟨e1, e2⟩ | ⟨e1, e2⟩
  · rw [ha] at e1
    rw [hb] at e2
    have := h2 e2
    rw [← e1, hout] at this
    omega
  · rw [hb] at e1
    rw [ha] at e2
    have := h1 e2
    rw [← e1, hout] at this
    omega
theorem Row.yes {M : Nat} {l : List Pip} {t : Int} {st i : Nat} {L : List Int} (hg : goodNet M l = true) (h : Row M l (far l 0 t) st i L) {x y : Nat} (hx1 : 1 ≤ x ∧ x ≤ M) (hy1 : 1 ≤ y ∧ y ≤ M) (he : Edge l 0 x y) (hp : HitP l (far l 0 t) st y i) (hxy : ∀ v : Int, HitP l (far l 0 t) st v i → v = y)
    (h1 : L[x]?.getD 0 = st) (h2 : L[y]?.getD 0 < 0) : Row M l (far l 0 t) st (i + 1) (L.set y ((st : Int) + 1)) := by
  rw [h.at' x hx1.1 hx1.2, lev_eq_st] at h1
  rw [h.at' y hy1.1 hy1.2] at h2
  have hs := (far_is (wo := 0) (s := t) hg).step x y he (by omega)
  have hfy : far l 0 t y = st + 1 := by
    apply Classical.byContradiction
    intro hn
    rw [lev_in (by omega)] at h2
    omega
  refine ⟨by rw [List.length_set]; exact h.len, by rw [List.getElem?_set_ne (by omega)]; exact h.zero, fun v hv1 hv2 => ?_⟩
  by_cases e : v = y
  · subst e
    rw [List.getElem?_set_self (by rw [h.len]; omega), lev_hit hfy ⟨i, by omega, hp⟩]
    rfl
  · rw [List.getElem?_set_ne (by omega), h.at' v hv1 hv2]
    symm
    apply lev_same
    intro _ hp2
    have := hxy v hp2
    omega
theorem Row.start {M : Nat} {l : List Pip} {t : Nat} {L : List Int} (hg : goodNet M l = true) (ht : 1 ≤ t ∧ t ≤ M) (hl : L.length = M + 1) (h : ∀ v : Nat, v ≤ M → L[v]?.getD 0 = -1) : Row M l (far l 0 t) 0 0 (L.set t 0) := by
  refine ⟨by rw [List.length_set]; exact hl, by rw [List.getElem?_set_ne (by omega)]; exact h 0 (by omega), fun v hv1 hv2 => ?_⟩
  by_cases e : v = t
  · subst e
    rw [List.getElem?_set_self (by omega), lev_in (by rw [far_self hg]; omega), far_self hg]
    rfl
  · rw [List.getElem?_set_ne (by omega), h v hv2, lev_out]
    · intro hc
      have := (far_is (wo := 0) (s := (t : Int)) hg).only v (by omega) (by omega) (by omega)
      omega
    · rintro ⟨-, j, hj, -⟩
      omega
theorem Row.next {M : Nat} {l : List Pip} {t : Int} {st : Nat} {L : List Int} (hg : goodNet M l = true) (h : Row M l (far l 0 t) st l.length L) : Row M l (far l 0 t) (st + 1) 0 L := by
  refine ⟨h.len, h.zero, fun v hv1 hv2 => ?_⟩
  rw [h.at' v hv1 hv2]
  by_cases h1 : 0 ≤ far l 0 t v ∧ far l 0 t v ≤ st
  · rw [lev_in h1, lev_in (by omega)]
  · by_cases h2 : far l 0 t v = st + 1
    · obtain ⟨u, ⟨k, hk, -, ho, hx⟩, hu⟩ := (far_is (wo := 0) (s := t) hg).back v (by omega) (by omega) (by omega)
      rw [lev_hit h2 ⟨k, hk, by
        rcases oth_ends ho hx with ⟨a, b⟩ | ⟨a, b⟩
        · right; exact ⟨b, by rw [← a]; omega⟩
        · left; exact ⟨b, by rw [← a]; omega⟩⟩, lev_in (by omega)]
      omega
    · rw [lev_out h1 (fun e => h2 e.1), lev_out (by omega)]
      rintro ⟨-, j, hj, -⟩
      omega
theorem Row.done {M : Nat} {l : List Pip} {t : Int} {L : List Int} (hg : goodNet M l = true) (ht : 1 ≤ t ∧ t ≤ M) (h : Row M l (far l 0 t) M 0 L) : L = distL M l 0 t := by
  have hd : (distL M l 0 t).length = M + 1 := by simp [distL]
  apply List.ext_getElem?
  intro v
  by_cases hv : v ≤ M
  · have e : L[v]?.getD 0 = (distL M l 0 t)[v]?.getD 0 := by
      by_cases h0 : v = 0
      · subst h0
        rw [h.zero, distL_zero]
      · rw [h.at' v (by omega) hv, distL_at (by omega) (by omega)]
        have hlt := far_lt (wo := 0) (v := (v : Int)) hg ht (by omega) (by omega)
        by_cases hf : 0 ≤ far l 0 t v
        · rw [lev_in (by omega)]
        · rw [lev_out (by omega) (by omega)]
          have := (far_is (wo := 0) (s := t) hg).low v (by omega) (by omega)
          omega
    rw [List.getElem?_eq_getElem (by rw [h.len]; omega), List.getElem?_eq_getElem (by omega)] at e ⊢
    simpa using e
  · rw [List.getElem?_eq_none (by rw [h.len]; omega), List.getElem?_eq_none (by omega)]

end Go.Proofs.Ytikjighlnpdgiaa

