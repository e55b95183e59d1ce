/-
  Heads in a tree, in plain lists: each pipe leads from one level to the next one, each node has one pipe from the level below.
-/
import Derived.Test.YthhogblnndmenaaWayA
set_option linter.unusedVariables false
set_option linter.unusedSimpArgs false
namespace Go.Proofs.Ythhogblnndmenaa
open Go.RowKit

theorem ids_ne {N : Int} {l : List Pip} {i k : Nat} (hg : goodNet N l = true) (hi : i < l.length) (hk : k < l.length) (h : k ≠ i) : (pp l k).1 ≠ (pp l i).1 := by
  by_cases e : k < i
  · have := ids_rise hg i k hi e; omega
  · have := ids_rise hg k i hk (by omega); omega
/-- In a tree no pipe can be spared. -/
theorem tree_spare {N : Int} {l : List Pip} {s : Int} {i : Nat} (hg : goodNet N l = true) (ht : treeB N l = true) (hs : 1 ≤ s ∧ s ≤ N) (hi : i < l.length) (h : ∀ v : Int, 1 ≤ v → v ≤ N → v ≠ s → ∃ k, BackK l 0 s v k ∧ k ≠ i) : False := by
  obtain ⟨h1, h2⟩ := (treeB_iff hg).1 ht
  have hall : ∀ (d : Nat) (v : Int), 1 ≤ v → v ≤ N → far l 0 s v = d → 0 ≤ far l (pp l i).1 s v := by
    intro d
    induction d with
    | zero =>
      intro v v1 v2 hv
      have := (far_is (wo := 0) (s := s) hg).only v v1 v2 (by omega)
      subst this
      rw [far_self hg]
      omega
    | succ d ih =>
      intro v v1 v2 hv
      obtain ⟨k, ⟨hk, -, u, ho, hx, hu⟩, hne⟩ := h v v1 v2 (fun e => by subst e; rw [far_self hg] at hv; omega)
      obtain ⟨⟨u1, u2⟩, -, -, -⟩ := okQ_ends hg hk ho hx
      have := ih u u1 u2 (by omega)
      exact ((far_is (wo := (pp l i).1) (s := s) hg).step u v ⟨k, hk, ids_ne hg hi hk hne, ho, hx⟩ this).1
  have hg' := goodNet_sub (List.eraseIdx_sublist l i) hg
  have hN := (goodNet_get hg).1
  have := (reachL_all (l := l.eraseIdx i) (s := s) (N := N) (by omega)).2 (fun v v1 v2 => by
    unfold Conn
    rw [far_without hg hi]
    have hc : 0 ≤ far l 0 s v := h2 s v hs.1 hs.2 v1 v2
    exact hall (far l 0 s v).toNat v v1 v2 (by omega))
  have hcnt := reach_count (s := s) hg'
  rw [List.length_eraseIdx_of_lt hi] at hcnt
  omega
theorem tree_back {N : Int} {l : List Pip} {s v : Int} (hg : goodNet N l = true) (ht : treeB N l = true) (hs : 1 ≤ s ∧ s ≤ N) (h1 : 1 ≤ v) (h2 : v ≤ N) (hv : v ≠ s) : ∃ k, BackK l 0 s v k := by
  have hc : 0 ≤ far l 0 s v := ((treeB_iff hg).1 ht).2 s v hs.1 hs.2 h1 h2
  refine backK_ex hg h1 h2 ?_
  apply Classical.byContradiction
  intro hn
  exact hv ((far_is (wo := 0) (s := s) hg).only v h1 h2 (by omega))
/-- A node has one pipe from the level below. -/
theorem tree_one {N : Int} {l : List Pip} {s v : Int} {i k : Nat} (hg : goodNet N l = true) (ht : treeB N l = true) (hs : 1 ≤ s ∧ s ≤ N) (hi : BackK l 0 s v i) (hk : BackK l 0 s v k) : i = k := by
  apply Classical.byContradiction
  intro hne
  refine tree_spare hg ht hs hk.1 (fun x x1 x2 hx => ?_)
  by_cases e : x = v
  · subst e; exact ⟨i, hi, hne⟩
  · obtain ⟨m, hm⟩ := tree_back hg ht hs x1 x2 hx
    refine ⟨m, hm, fun e2 => ?_⟩
    subst e2
    exact e (backK_inj hm hk)
/-- Each pipe leads from one level to the next one. -/
theorem tree_level {N : Int} {l : List Pip} {s : Int} {i : Nat} (hg : goodNet N l = true) (ht : treeB N l = true) (hs : 1 ≤ s ∧ s ≤ N) (hi : i < l.length) : BackK l 0 s (pp l i).2.1 i ∨ BackK l 0 s (pp l i).2.2.1 i := by
  apply Classical.byContradiction
  intro hn
  refine tree_spare hg ht hs hi (fun v v1 v2 hv => ?_)
  obtain ⟨k, hk⟩ := tree_back hg ht hs v1 v2 hv
  refine ⟨k, hk, fun e => ?_⟩
  subst e
  obtain ⟨-, -, u, ho, hx, -⟩ := id hk
  rcases oth_ends ho hx with ⟨a, b⟩ | ⟨a, b⟩
  · rw [b] at hk; exact hn (.inr hk)
  · rw [b] at hk; exact hn (.inl hk)

/-- The heads agree with the losses of the pipes. -/
def Agree (l : List Pip) (fs out : List Int) (k : Nat) : Prop := out[(pp l k).2.2.1.toNat - 1]?.getD 0 = out[(pp l k).2.1.toNat - 1]?.getD 0 - loss l fs k
theorem sgl_agree {N : Int} {l : List Pip} {fs out : List Int} {v : Int} {k : Nat} (hg : goodNet N l = true) (hk : k < l.length) (ha : Agree l fs out k) (h0 : 0 < oth (pp l k) v) : out[(oth (pp l k) v).toNat - 1]?.getD 0 = out[v.toNat - 1]?.getD 0 - sgl l fs v k := by
  unfold Agree at ha
  have hne := (goodNet_pipe hg hk).2.2.2.1
  rcases oth_ends rfl h0 with ⟨a, b⟩ | ⟨a, b⟩
  · rw [b, a]
    unfold sgl
    rw [if_pos rfl]
    exact ha
  · rw [b, a]
    unfold sgl
    rw [if_neg (fun e => hne e.symm), ha]
    omega
/-- Where all agree, what is lost along a way is the difference of the heads. -/
theorem lsum_agree {N : Int} {l : List Pip} {fs out : List Int} {t v0 : Int} (hg : goodNet N l = true) (ha : ∀ k, k < l.length → Agree l fs out k) (h1 : 1 ≤ v0) (h2 : v0 ≤ N) : ∀ d : Nat, (d : Int) ≤ far l 0 t v0 → out[(nod l (far l 0 t) v0 d).toNat - 1]?.getD 0 = out[v0.toNat - 1]?.getD 0 - lsum l fs (far l 0 t) v0 d
  | 0, _ => by simp [nod, lsum]
  | d + 1, h => by
    have ih := lsum_agree (t := t) hg ha h1 h2 d (by omega)
    obtain ⟨k1, k2, -⟩ := kk_ok (t := t) (j := d) hg h1 h2 (by omega)
    have := sgl_agree hg k1 (ha _ k1) (stepB_iff.1 k2).1
    rw [nod_succ, this, ih, lsum_succ]
    omega
theorem tree_lev {N : Int} {l : List Pip} {s : Int} {i : Nat} (hg : goodNet N l = true) (ht : treeB N l = true) (hs : 1 ≤ s ∧ s ≤ N) (hi : i < l.length) : (far l 0 s (pp l i).2.2.1 = far l 0 s (pp l i).2.1 + 1 ∧ BackK l 0 s (pp l i).2.2.1 i) ∨ (far l 0 s (pp l i).2.1 = far l 0 s (pp l i).2.2.1 + 1 ∧ BackK l 0 s (pp l i).2.1 i) := by
  have hne := (goodNet_pipe hg hi).2.2.2.1
  rcases tree_level hg ht hs hi with h | h
  · right
    refine ⟨?_, h⟩
    obtain ⟨-, -, u, ho, hx, hu⟩ := h
    rcases oth_ends ho hx with ⟨a, b⟩ | ⟨a, b⟩
    · exact absurd b hne
    · rw [a] at hu; omega
  · left
    refine ⟨?_, h⟩
    obtain ⟨-, -, u, ho, hx, hu⟩ := h
    rcases oth_ends ho hx with ⟨a, b⟩ | ⟨a, b⟩
    · rw [a] at hu; omega
    · exact absurd b.symm hne
/-- The level of a pipe's lower end. -/
def lowK (l : List Pip) (f : Int → Int) (k : Nat) : Int := min (f (pp l k).2.1) (f (pp l k).2.2.1)
/-- What the levels below, and the first pipes of a level, have made agree. -/
structure HeadP (M : Nat) (l : List Pip) (s : Int) (fs : List Int) (head : Int) (st i : Nat) (out : List Int) : Prop where
  len : out.length = M
  src : out[s.toNat - 1]?.getD 0 = head
  ok : ∀ k, k < l.length → (lowK l (far l 0 s) k < st ∨ lowK l (far l 0 s) k = st ∧ k < i) → Agree l fs out k
theorem HeadP.skip {M : Nat} {l : List Pip} {s : Int} {fs out : List Int} {head : Int} {st i : Nat} (hg : goodNet M l = true) (ht : treeB M l = true) (hs : 1 ≤ s ∧ s ≤ M) (hi : i < l.length) (h : HeadP M l s fs head st i out) (hn : ¬ (far l 0 s (pp l i).2.1 = st ∧ far l 0 s (pp l i).2.2.1 = st + 1)) (hn2 : ¬ (far l 0 s (pp l i).2.2.1 = st ∧ far l 0 s (pp l i).2.1 = st + 1)) : HeadP M l s fs head st (i + 1) out := by
  refine ⟨h.len, h.src, fun k hk hd => h.ok k hk ?_⟩
  rcases hd with a | ⟨a, b⟩
  · exact .inl a
  · by_cases e : k = i
    · subst e
      unfold lowK at a
      rcases tree_lev hg ht hs hi with ⟨b1, -⟩ | ⟨b1, -⟩
      · exact absurd ⟨by omega, by omega⟩ hn
      · exact absurd ⟨by omega, by omega⟩ hn2
    · exact .inr ⟨a, by omega⟩
theorem HeadP.put {M : Nat} {l : List Pip} {s : Int} {fs out : List Int} {head y : Int} {st i : Nat} (hg : goodNet M l = true) (ht : treeB M l = true) (hs : 1 ≤ s ∧ s ≤ M) (hi : i < l.length) (h : HeadP M l s fs head st i out) {v : Int} (hv : 1 ≤ v ∧ v ≤ M)
    (hfv : far l 0 s v = st + 1) (hb : BackK l 0 s v i) (hy : Agree l fs (out.set (v.toNat - 1) y) i) : HeadP M l s fs head st (i + 1) (out.set (v.toNat - 1) y) := by
  have hvs : v ≠ s := fun e => by
    subst e
    rw [far_self hg] at hfv
    omega
  refine ⟨by rw [List.length_set]; exact h.len, by rw [List.getElem?_set_ne (by omega)]; exact h.src, fun k hk hd => ?_⟩
  by_cases e : k = i
  · subst e; exact hy
  · have hag := h.ok k hk (by
      rcases hd with a | ⟨a, b⟩
      · exact .inl a
      · exact .inr ⟨a, by omega⟩)
    have hnb : ¬ BackK l 0 s v k := fun hb2 => e (tree_one hg ht hs hb2 hb)
    have p1 := goodNet_pipe hg hk
    have hlow : lowK l (far l 0 s) k ≤ st := by omega
    unfold lowK at hlow
    have nF : (pp l k).2.1 ≠ v := fun e2 => by
      rcases tree_lev hg ht hs hk with ⟨b1, -⟩ | ⟨b1, b2⟩
      · rw [e2] at b1 hlow; omega
      · rw [e2] at b2; exact hnb b2
    have nT : (pp l k).2.2.1 ≠ v := fun e2 => by
      rcases tree_lev hg ht hs hk with ⟨b1, b2⟩ | ⟨b1, -⟩
      · rw [e2] at b2; exact hnb b2
      · rw [e2] at b1 hlow; omega
    unfold Agree at hag ⊢
    rw [List.getElem?_set_ne (by omega), List.getElem?_set_ne (by omega)]
    exact hag
theorem HeadP.next {M : Nat} {l : List Pip} {s : Int} {fs out : List Int} {head : Int} {st : Nat} (h : HeadP M l s fs head st l.length out) : HeadP M l s fs head (st + 1) 0 out :=
  ⟨h.len, h.src, fun k hk hd => h.ok k hk (by omega)⟩
theorem HeadP.start {M : Nat} {l : List Pip} {s : Int} {fs out : List Int} {head : Int} (hg : goodNet M l = true) (ht : treeB M l = true) (hs : 1 ≤ s ∧ s ≤ M) (hl : out.length = M) : HeadP M l s fs head 0 0 (out.set (s.toNat - 1) head) := by
  refine ⟨by rw [List.length_set]; exact hl, by rw [List.getElem?_set_self (by omega)]; rfl, fun k hk hd => ?_⟩
  have p1 := goodNet_pipe hg hk
  have h2 := ((treeB_iff hg).1 ht).2
  have a : 0 ≤ far l 0 s (pp l k).2.1 := h2 s _ hs.1 hs.2 p1.2.1.1 p1.2.1.2
  have b : 0 ≤ far l 0 s (pp l k).2.2.1 := h2 s _ hs.1 hs.2 p1.2.2.1.1 p1.2.2.1.2
  unfold lowK at hd
  omega
/-- When all levels are done, all pipes agree. -/
theorem HeadP.all {M : Nat} {l : List Pip} {s : Int} {fs out : List Int} {head : Int} (hg : goodNet M l = true) (hs : 1 ≤ s ∧ s ≤ M) (h : HeadP M l s fs head M 0 out) : ∀ k, k < l.length → Agree l fs out k := fun k hk => by
  have p1 := goodNet_pipe hg hk
  have := far_lt (wo := 0) (v := (pp l k).2.1) hg hs p1.2.1.1 p1.2.1.2
  refine h.ok k hk (.inl ?_)
  unfold lowK
  omega
/-- The head at a node. -/
theorem HeadP.at {M : Nat} {l : List Pip} {s v : Int} {fs out : List Int} {head : Int} (hg : goodNet M l = true) (ht : treeB M l = true) (hs : 1 ≤ s ∧ s ≤ M) (hv : 1 ≤ v ∧ v ≤ M) (h : HeadP M l s fs head M 0 out) : out[v.toNat - 1]?.getD 0 = head - lsum l fs (far l 0 v) s (far l 0 v s).toNat := by
  have hc : 0 ≤ far l 0 v s := ((treeB_iff hg).1 ht).2 v s hv.1 hv.2 hs.1 hs.2
  have e := lsum_agree (t := v) (v0 := s) hg (h.all hg hs) hs.1 hs.2 (far l 0 v s).toNat (by omega)
  rw [(nod_end (t := v) (v0 := s) (j := (far l 0 v s).toNat) hg hs.1 hs.2 (by omega)).2 (by omega), h.src] at e
  exact e
/-- What the reference gives at a node. -/
noncomputable def headAt (l : List Pip) (fs : List Int) (s head : Int) (v : Int) : Int := head - lsum l fs (far l 0 v) s (far l 0 v s).toNat
noncomputable def headL (l : List Pip) (fs : List Int) (s head : Int) (k : Nat) : List Int := (List.range k).map fun j : Nat => headAt l fs s head ((j : Int) + 1)
theorem headL_succ (l : List Pip) (fs : List Int) (s head : Int) (k : Nat) : headL l fs s head (k + 1) = headL l fs s head k ++ [headAt l fs s head ((k : Int) + 1)] := by simp [headL, List.range_succ]
theorem headL_len (l : List Pip) (fs : List Int) (s head : Int) (k : Nat) : (headL l fs s head k).length = k := by simp [headL]
theorem HeadP.done {M : Nat} {l : List Pip} {s : Int} {fs out : List Int} {head : Int} (hg : goodNet M l = true) (ht : treeB M l = true) (hs : 1 ≤ s ∧ s ≤ M) (h : HeadP M l s fs head M 0 out) : out = headL l fs s head M := by
  apply List.ext_getElem?
  intro j
  by_cases hj : j < M
  · have e := h.at (v := (j : Int) + 1) hg ht hs (by omega)
    have e2 : ((j : Int) + 1).toNat - 1 = j := by omega
    rw [e2, List.getElem?_eq_getElem (by rw [h.len]; exact hj)] at e
    rw [List.getElem?_eq_getElem (by rw [h.len]; exact hj), List.getElem?_eq_getElem (by rw [headL_len]; exact hj)]
    simp only [Option.getD_some] at e
    rw [e]
    simp [headL, headAt]
  · rw [List.getElem?_eq_none (by rw [h.len]; omega), List.getElem?_eq_none (by rw [headL_len]; omega)]

end Go.Proofs.Ythhogblnndmenaa
