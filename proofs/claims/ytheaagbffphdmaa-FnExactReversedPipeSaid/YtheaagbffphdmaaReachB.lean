/-
  Networks, in plain lists: the nodes that the reference's search holds; sublists of a valid network; a pipe left out; the pipes that join parts.
-/
import Derived.Test.YtheaagbffphdmaaReachA
set_option linter.unusedVariables false
set_option linter.unusedSimpArgs false
namespace Go.Proofs.Ytheaagbffphdmaa
open Go.RowKit

theorem asc_len : ∀ {l : List Int} {lo hi : Int}, Asc l → (∀ x ∈ l, lo ≤ x ∧ x ≤ hi) → lo ≤ hi + 1 → (l.length : Int) ≤ hi - lo + 1
  | [], lo, hi, _, _, h => by simp; omega
  | y :: r, lo, hi, ha, hb, h => by
    unfold Asc at ha
    rw [List.pairwise_cons] at ha
    have h1 := hb y (by simp)
    have := asc_len (l := r) (lo := y + 1) (hi := hi) ha.2 (fun x hx => ⟨by have := ha.1 x hx; omega, (hb x (by simp [hx])).2⟩) (by omega)
    simp only [List.length_cons]
    omega

structure Wet (M : Nat) (l : List Pip) (s : Int) (R : List Int) : Prop where
  asc : Asc R
  has : s ∈ R
  got : ∀ x ∈ R, (1 ≤ x ∧ x ≤ (M : Int)) ∧ 0 ≤ far l 0 s x
theorem Wet.len {M : Nat} {l : List Pip} {s : Int} {R : List Int} (h : Wet M l s R) : R.length ≤ M := by
  have := asc_len (lo := 1) (hi := (M : Int)) h.asc (fun x hx => (h.got x hx).1) (by omega)
  omega
theorem Wet.pos {M : Nat} {l : List Pip} {s : Int} {R : List Int} (h : Wet M l s R) : 0 < R.length := List.length_pos_of_mem h.has
theorem Wet.start {M : Nat} {l : List Pip} {s : Int} (hg : goodNet M l = true) (hs : 1 ≤ s ∧ s ≤ M) : Wet M l s [s] :=
  ⟨by simp [Asc], by simp, fun x hx => by
    obtain rfl : x = s := by simpa using hx
    exact ⟨hs, by rw [far_self hg]; omega⟩⟩
theorem pipe_edge {N : Int} {l : List Pip} {k : Nat} (hg : goodNet N l = true) (hk : k < l.length) : Edge l 0 (pp l k).2.1 (pp l k).2.2.1 ∧ Edge l 0 (pp l k).2.2.1 (pp l k).2.1 := by
  obtain ⟨h1, h2, h3, h4, -⟩ := goodNet_pipe hg hk
  have : Edge l 0 (pp l k).2.1 (pp l k).2.2.1 := ⟨k, hk, by omega, by unfold oth; rw [if_pos rfl], by omega⟩
  exact ⟨this, this.symm hg⟩
theorem Wet.put {M : Nat} {l : List Pip} {s x u : Int} {R : List Int} (hg : goodNet M l = true) (h : Wet M l s R) (hn : x ∉ R) (hu : u ∈ R) (he : Edge l 0 u x) : Wet M l s (ins x R) := by
  refine ⟨asc_ins h.asc hn, mem_ins.2 (.inr h.has), fun y hy => ?_⟩
  rw [mem_ins] at hy
  rcases hy with rfl | hy
  · have hd := far_is (wo := 0) (s := s) hg
    exact ⟨(he.ends hg).2.1, (hd.step u y he (h.got u hu).2).1⟩
  · exact h.got y hy
theorem Wet.done {M : Nat} {l : List Pip} {s : Int} {R : List Int} (hg : goodNet M l = true) (h : Wet M l s R) (hc : ∀ k, k < l.length → ((pp l k).2.1 ∈ R ↔ (pp l k).2.2.1 ∈ R)) : R = reachL M l 0 s :=
  reachL_is hg h.asc h.has h.got hc

theorem pp_mem {l : List Pip} {k : Nat} (hk : k < l.length) : pp l k ∈ l := by
  unfold pp
  rw [List.getElem?_eq_getElem hk]
  exact List.getElem_mem hk
theorem pp_get {l : List Pip} {k : Nat} (hk : k < l.length) : pp l k = l[k] := by
  unfold pp
  rw [List.getElem?_eq_getElem hk]
  rfl
theorem ids_rise {N : Int} {l : List Pip} (hg : goodNet N l = true) : ∀ (j i : Nat), j < l.length → i < j → (pp l i).1 < (pp l j).1
  | 0, _, _, h => by omega
  | j + 1, i, hj, hi => by
    have := (goodNet_get hg).2.2 (j + 1) hj
    simp only [okQ, Bool.and_eq_true, Bool.or_eq_true, decide_eq_true_eq] at this
    have h2 : (pp l j).1 < (pp l (j + 1)).1 := by
      rcases this.2 with h | h
      · omega
      · simpa using h
    by_cases e : i = j
    · subst e; exact h2
    · have := ids_rise hg j i (by omega) (by omega)
      omega
theorem goodNet_iff {N : Int} {l : List Pip} : goodNet N l = true ↔ (1 ≤ N ∧ N ≤ 8) ∧ l.length ≤ 10 ∧ (∀ p ∈ l, okPipe N p = true) ∧ l.Pairwise (fun p q => p.1 < q.1) := by
  constructor
  · intro h
    obtain ⟨h1, h2, h3⟩ := goodNet_get h
    refine ⟨h1, h2, fun p hp => ?_, ?_⟩
    · obtain ⟨k, hk, rfl⟩ := List.mem_iff_getElem.1 hp
      have := h3 k hk
      simp only [okQ, Bool.and_eq_true] at this
      rw [pp_get hk] at this
      exact this.1
    · rw [List.pairwise_iff_getElem]
      intro i j hi hj hij
      have := ids_rise h j i hj hij
      rwa [pp_get hi, pp_get hj] at this
  · rintro ⟨h1, h2, h3, h4⟩
    refine goodNet_all (inR_iff.2 h1) h2 (fun k hk => ?_)
    simp only [okQ, Bool.and_eq_true, Bool.or_eq_true, decide_eq_true_eq]
    refine ⟨h3 _ (pp_mem hk), ?_⟩
    by_cases e : k = 0
    · exact .inl e
    · right
      rw [List.pairwise_iff_getElem] at h4
      rw [pp_get hk, pp_get (show k - 1 < l.length by omega)]
      exact h4 (k - 1) k (by omega) hk (by omega)
theorem goodNet_sub {N : Int} {l m : List Pip} (hs : m.Sublist l) (h : goodNet N l = true) : goodNet N m = true := by
  rw [goodNet_iff] at h ⊢
  exact ⟨h.1, Nat.le_trans hs.length_le h.2.1, fun p hp => h.2.2.1 p (hs.subset hp), List.Pairwise.sublist hs h.2.2.2⟩
theorem edge_mem {l : List Pip} {wo u v : Int} : Edge l wo u v ↔ ∃ p ∈ l, p.1 ≠ wo ∧ oth p u = v ∧ 0 < v := by
  constructor
  · rintro ⟨k, hk, h⟩
    exact ⟨pp l k, pp_mem hk, h⟩
  · rintro ⟨p, hp, h⟩
    obtain ⟨k, hk, rfl⟩ := List.mem_iff_getElem.1 hp
    exact ⟨k, hk, by rw [pp_get hk]; exact h⟩
theorem mem_without {N : Int} {l : List Pip} {i : Nat} (hg : goodNet N l = true) (hi : i < l.length) {p : Pip} : p ∈ l.eraseIdx i ↔ p ∈ l ∧ p.1 ≠ (pp l i).1 := by
  rw [List.mem_eraseIdx_iff_getElem]
  constructor
  · rintro ⟨j, hj, hne, rfl⟩
    refine ⟨List.getElem_mem hj, ?_⟩
    have := pp_get hj
    rw [← this]
    by_cases h : j < i
    · have := ids_rise hg i j hi h
      omega
    · have := ids_rise hg j i hj (by omega)
      omega
  · rintro ⟨hp, hne⟩
    obtain ⟨j, hj, rfl⟩ := List.mem_iff_getElem.1 hp
    refine ⟨j, hj, fun e => ?_, rfl⟩
    subst e
    rw [pp_get hj] at hne
    exact hne rfl
/-- Without a pipe: in the list that leaves it out the ways are those that leave its Id out. -/
theorem far_without {N : Int} {l : List Pip} {i : Nat} (hg : goodNet N l = true) (hi : i < l.length) (s : Int) : far (l.eraseIdx i) 0 s = far l (pp l i).1 s := by
  refine far_congr (fun u v => ?_)
  rw [edge_mem, edge_mem]
  constructor
  · rintro ⟨p, hp, -, h⟩
    obtain ⟨h1, h2⟩ := (mem_without hg hi).1 hp
    exact ⟨p, h1, h2, h⟩
  · rintro ⟨p, hp, h2, h⟩
    refine ⟨p, (mem_without hg hi).2 ⟨hp, h2⟩, ?_, h⟩
    have := okPipe_iff.1 ((goodNet_iff.1 hg).2.2.1 p hp)
    omega
theorem reach_without {N : Int} {l : List Pip} {i : Nat} (hg : goodNet N l = true) (hi : i < l.length) (s : Int) : reachL N (l.eraseIdx i) 0 s = reachL N l (pp l i).1 s := by
  unfold reachL distL
  rw [far_without hg hi]

/-- The pipes, of the first k, that join nodes that are not connected yet. -/
noncomputable def span (l : List Pip) : Nat → List Pip
  | 0 => []
  | k + 1 => open Classical in if 0 ≤ far (span l k) 0 (pp l k).2.1 (pp l k).2.2.1 then span l k else span l k ++ [pp l k]
theorem span_yes {l : List Pip} {k : Nat} (h : 0 ≤ far (span l k) 0 (pp l k).2.1 (pp l k).2.2.1) : span l (k + 1) = span l k := by
  conv => lhs; unfold span
  rw [if_pos h]
theorem span_no {l : List Pip} {k : Nat} (h : ¬ 0 ≤ far (span l k) 0 (pp l k).2.1 (pp l k).2.2.1) : span l (k + 1) = span l k ++ [pp l k] := by
  conv => lhs; unfold span
  rw [if_neg h]
theorem span_sub (l : List Pip) : ∀ k, k ≤ l.length → (span l k).Sublist (l.take k)
  | 0, _ => by simp [span]
  | k + 1, hk => by
    have ih := span_sub l k (by omega)
    have e : l.take (k + 1) = l.take k ++ [pp l k] := by
      rw [List.take_add_one, List.getElem?_eq_getElem (by omega), pp_get (by omega)]
      rfl
    rw [e]
    by_cases h : 0 ≤ far (span l k) 0 (pp l k).2.1 (pp l k).2.2.1
    · rw [span_yes h]
      exact ih.trans (List.sublist_append_left _ _)
    · rw [span_no h]
      exact ih.append (List.Sublist.refl _)
theorem span_good {N : Int} {l : List Pip} (hg : goodNet N l = true) {k : Nat} (hk : k ≤ l.length) : goodNet N (span l k) = true :=
  goodNet_sub ((span_sub l k hk).trans (List.take_sublist _ _)) hg
theorem span_len (l : List Pip) {k : Nat} (hk : k ≤ l.length) : (span l k).length ≤ k := by
  have := (span_sub l k hk).length_le
  simp at this
  omega
theorem to_reached {N : Int} {l : List Pip} {wo s x : Int} (hx : 1 ≤ x ∧ x ≤ N) : x ∈ reachL N l wo s ↔ 0 ≤ far l wo s x := by
  rw [mem_reachL]
  exact ⟨fun h => h.2, fun h => ⟨hx, h⟩⟩

end Go.Proofs.Ytheaagbffphdmaa
