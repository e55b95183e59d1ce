/-
  The loop of a ring, plain: the pipes whose ends are joined without them, and the way round.
-/
import Derived.Test.YthhogblnndmenaaHeadA
set_option linter.unusedVariables false
set_option linter.unusedSimpArgs false
namespace Go.Proofs.Ythhogblnndmenaa
open Go.RowKit

theorem far_iff {l : List Pip} {wo u v : Int} : 0 ≤ far l wo u v ↔ ∃ n, Way l wo u n v := by
  constructor
  · intro h
    obtain ⟨m, -, hw, -⟩ := far_some h
    exact ⟨m, hw⟩
  · rintro ⟨n, hn⟩
    obtain ⟨m, -, e, -⟩ := far_way hn
    omega
theorem far_symm {N : Int} {l : List Pip} {wo u v : Int} (hg : goodNet N l = true) (h : 0 ≤ far l wo u v) : 0 ≤ far l wo v u := by
  rw [far_iff] at h ⊢
  obtain ⟨n, hn⟩ := h
  exact ⟨n, way_symm hg n v hn⟩
theorem far_trans {l : List Pip} {wo u v x : Int} (h : 0 ≤ far l wo u v) (k : 0 ≤ far l wo v x) : 0 ≤ far l wo u x := by
  rw [far_iff] at h k ⊢
  obtain ⟨n, hn⟩ := h
  obtain ⟨m, hm⟩ := k
  exact way_trans hn m x hm

/-- Whether the ends of a pipe are joined without it. -/
noncomputable def onL (l : List Pip) (i : Nat) : Bool := decide (0 ≤ far l (pp l i).1 (pp l i).2.1 (pp l i).2.2.1)
theorem onL_iff {l : List Pip} {i : Nat} : onL l i = true ↔ 0 ≤ far l (pp l i).1 (pp l i).2.1 (pp l i).2.2.1 := by simp [onL]
/-- The first pipe of the loop. -/
noncomputable def firstL (l : List Pip) : Nat := (List.range l.length).findIdx (onL l)
theorem firstL_hit {l : List Pip} {k : Nat} (hk : k < l.length) (h : onL l k = true) (hm : ∀ j, j < k → onL l j = false) : firstL l = k := by
  unfold firstL
  rw [List.findIdx_eq (by simpa using hk)]
  refine ⟨by simpa using h, fun j hj => by simpa using hm j hj⟩
theorem firstL_ok {l : List Pip} (h : ∃ k, k < l.length ∧ onL l k = true) : firstL l < l.length ∧ onL l (firstL l) = true ∧ ∀ j, j < firstL l → onL l j = false := by
  obtain ⟨m, ⟨hm, hs⟩, hl⟩ := least h
  have e := firstL_hit hm hs (fun j hj => by
    cases e : onL l j
    · rfl
    · exact absurd ⟨by omega, e⟩ (hl j hj))
  rw [e]
  refine ⟨hm, hs, fun j hj => ?_⟩
  cases e2 : onL l j
  · rfl
  · exact absurd ⟨by omega, e2⟩ (hl j hj)

theorem ringB_iff {M : Nat} {l : List Pip} (hg : goodNet M l = true) : ringB M l = true ↔ l.length = M ∧ ∀ v : Int, 1 ≤ v → v ≤ M → Conn l 1 v := by
  unfold ringB
  rw [Bool.and_eq_true, decide_eq_true_eq, decide_eq_true_eq, reachL_all (by omega)]
  constructor
  · rintro ⟨a, b⟩; exact ⟨by omega, b⟩
  · rintro ⟨a, b⟩; exact ⟨by omega, b⟩
theorem ring_conn {M : Nat} {l : List Pip} (hg : goodNet M l = true) (hr : ringB M l = true) {u v : Int} (u1 : 1 ≤ u) (u2 : u ≤ M) (v1 : 1 ≤ v) (v2 : v ≤ M) : Conn l u v :=
  (((ringB_iff hg).1 hr).2 u u1 u2).symm hg |>.trans (((ringB_iff hg).1 hr).2 v v1 v2)

/-- Without a pipe that is not needed for any node all nodes stay joined. -/
theorem spare_conn {N : Int} {l : List Pip} {s : Int} {i : Nat} (hg : goodNet N l = true) (hc : ∀ v : Int, 1 ≤ v → v ≤ N → Conn l s v) (hs : 1 ≤ s ∧ s ≤ N) (hi : i < l.length) (h : ∀ v : Int, 1 ≤ v → v ≤ N → v ≠ s → ∃ k, BackK l 0 s v k ∧ k ≠ i) : ∀ v : Int, 1 ≤ v → v ≤ N → 0 ≤ far l (pp l i).1 s v := by
  have hall : ∀ (d : Nat) (v : Int), 1 ≤ v → v ≤ N → far l 0 s v = d → 0 ≤ far l (pp l i).1 s v := by
    intro d
    induction d with
    | zero =>
      intro v v1 v2 hv
      have := (far_is (wo := 0) (s := s) hg).only v v1 v2 (by omega)
      subst this
      rw [far_self hg]
      omega
    | succ d ih =>
      intro v v1 v2 hv
      obtain ⟨k, ⟨hk, -, u, ho, hx, hu⟩, hne⟩ := h v v1 v2 (fun e => by subst e; rw [far_self hg] at hv; omega)
      obtain ⟨⟨u1, u2⟩, -, -, -⟩ := okQ_ends hg hk ho hx
      have := ih u u1 u2 (by omega)
      exact ((far_is (wo := (pp l i).1) (s := s) hg).step u v ⟨k, hk, ids_ne hg hi hk hne, ho, hx⟩ this).1
  intro v v1 v2
  have : 0 ≤ far l 0 s v := hc v v1 v2
  exact hall (far l 0 s v).toNat v v1 v2 (by omega)

theorem far_pos {N : Int} {l : List Pip} {s v : Int} (hg : goodNet N l = true) (hc : ∀ v : Int, 1 ≤ v → v ≤ N → Conn l s v) (v1 : 1 ≤ v) (v2 : v ≤ N) (hv : v ≠ s) : 0 < far l 0 s v := by
  have h0 : 0 ≤ far l 0 s v := hc v v1 v2
  apply Classical.byContradiction
  intro h4
  exact hv ((far_is (wo := 0) (s := s) hg).only v v1 v2 (by omega))
theorem ring_on {M : Nat} {l : List Pip} (hg : goodNet M l = true) (hr : ringB M l = true) : ∃ k, k < l.length ∧ onL l k = true := by
  obtain ⟨hl, hc⟩ := (ringB_iff hg).1 hr
  have hM := (goodNet_get hg).1
  apply Classical.byContradiction
  intro hn
  have key : ∀ i : Int, ∃ v : Int, (0 ≤ i ∧ i < l.length) → (2 ≤ v ∧ v ≤ M) ∧ ∀ k, BackK l 0 1 v k → k = i.toNat := by
    intro i
    apply Classical.byContradiction
    intro hx
    have hx' : ∀ v : Int, (0 ≤ i ∧ i < l.length) ∧ ¬ ((2 ≤ v ∧ v ≤ M) ∧ ∀ k, BackK l 0 1 v k → k = i.toNat) := by
      intro v
      apply Classical.byContradiction
      intro h2
      refine hx ⟨v, fun hi => ?_⟩
      apply Classical.byContradiction
      intro h3
      exact h2 ⟨hi, h3⟩
    have hi := (hx' 0).1
    have hsp := spare_conn (i := i.toNat) hg hc ⟨by omega, by omega⟩ (by omega) (fun v v1 v2 hv => by
      apply Classical.byContradiction
      intro h5
      refine (hx' v).2 ⟨⟨by omega, v2⟩, fun k hk => ?_⟩
      apply Classical.byContradiction
      intro h6
      exact h5 ⟨k, hk, h6⟩)
    obtain ⟨-, p1, p2, -, -⟩ := goodNet_pipe hg (show i.toNat < l.length by omega)
    exact hn ⟨i.toNat, by omega, onL_iff.2 (far_trans (far_symm hg (hsp _ p1.1 p1.2)) (hsp _ p2.1 p2.2))⟩
  let A : List Int := (List.range l.length).map fun k : Nat => (k : Int)
  have hA : A.Nodup := by
    show List.Nodup ((List.range l.length).map fun k : Nat => (k : Int))
    unfold List.Nodup
    rw [List.pairwise_map]
    exact List.Pairwise.imp (fun h => by omega) (List.pairwise_lt_range)
  have hm : ∀ x ∈ A, 0 ≤ x ∧ x < l.length := by
    intro x hx
    obtain ⟨k, hk, rfl⟩ := List.mem_map.1 hx
    have := List.mem_range.1 hk
    omega
  have hM1 : 0 < M := by omega
  have := inj_len hA (n := M - 1) (fun x => (Classical.choose (key x)).toNat - 2) (fun x hx => by
      have := (Classical.choose_spec (key x) (hm x hx)).1
      show (Classical.choose (key x)).toNat - 2 < M - 1
      omega) (fun x hx y hy e => by
      obtain ⟨a1, a2⟩ := Classical.choose_spec (key x) (hm x hx)
      obtain ⟨b1, b2⟩ := Classical.choose_spec (key y) (hm y hy)
      have e' : (Classical.choose (key x)).toNat - 2 = (Classical.choose (key y)).toNat - 2 := e
      have e2 : Classical.choose (key x) = Classical.choose (key y) := by omega
      obtain ⟨k, hk⟩ := backK_ex hg (by omega) a1.2 (far_pos hg hc (by omega) a1.2 (by omega))
      have c := a2 k hk
      rw [e2] at hk
      have d := b2 k hk
      have := hm x hx
      have := hm y hy
      omega)
  have hlen : A.length = l.length := by show ((List.range l.length).map fun k : Nat => (k : Int)).length = _; simp
  omega

/-- Without a pipe of the loop a ring is a tree. -/
theorem ring_tree {M : Nat} {l : List Pip} {i : Nat} (hg : goodNet M l = true) (hr : ringB M l = true) (hi : i < l.length) (ho : onL l i = true) : treeB M (l.eraseIdx i) = true := by
  obtain ⟨hl, hc⟩ := (ringB_iff hg).1 hr
  have hg' := goodNet_sub (List.eraseIdx_sublist l i) hg
  refine (treeB_iff hg').2 ⟨by rw [List.length_eraseIdx_of_lt hi]; omega, fun u v u1 u2 v1 v2 => ?_⟩
  unfold Conn
  rw [far_without hg hi]
  have h1 := onL_iff.1 ho
  exact all_without hg hi ⟨u1, u2⟩ (fun v v1 v2 => ring_conn hg hr u1 u2 v1 v2) ⟨fun h => far_trans h h1, fun h => far_trans h (far_symm hg h1)⟩ v v1 v2

/-- A place behind the one left out, in the whole list. -/
def up (i0 k : Nat) : Nat := if k < i0 then k else k + 1
theorem pp_up (l : List Pip) (i0 k : Nat) : pp (l.eraseIdx i0) k = pp l (up i0 k) := by
  unfold pp up
  rw [List.getElem?_eraseIdx]
  split <;> rfl

/-- A way round through the nodes v, by the pipes q and i0. -/
structure Loop (M : Nat) (l : List Pip) (i0 d : Nat) (v : Nat → Int) (q : Nat → Nat) : Prop where
  lt0 : i0 < l.length
  v0 : v 0 = (pp l i0).2.2.1
  vd : v d = (pp l i0).2.1
  vin : ∀ j, j ≤ d → 1 ≤ v j ∧ v j ≤ M
  vinj : ∀ j k, j ≤ d → k ≤ d → v j = v k → j = k
  qlt : ∀ j, j < d → q j < l.length
  qne : ∀ j, j < d → q j ≠ i0
  qst : ∀ j, j < d → oth (pp l (q j)) (v j) = v (j + 1)
theorem Loop.ends {M : Nat} {l : List Pip} {i0 d : Nat} {v : Nat → Int} {q : Nat → Nat} (h : Loop M l i0 d v q) {j : Nat} (hj : j < d) : (v j = (pp l (q j)).2.1 ∧ v (j + 1) = (pp l (q j)).2.2.1) ∨ (v j = (pp l (q j)).2.2.1 ∧ v (j + 1) = (pp l (q j)).2.1) :=
  oth_ends (h.qst j hj) (by have := h.vin (j + 1) (by omega); omega)
theorem Loop.qinj {M : Nat} {l : List Pip} {i0 d : Nat} {v : Nat → Int} {q : Nat → Nat} (h : Loop M l i0 d v q) {j k : Nat} (hj : j < d) (hk : k < d) (e : q j = q k) : j = k := by
  have a := h.ends hj
  have b := h.ends hk
  rw [e] at a
  rcases a with ⟨a1, a2⟩ | ⟨a1, a2⟩ <;> rcases b with ⟨b1, b2⟩ | ⟨b1, b2⟩
  · exact h.vinj j k (by omega) (by omega) (by omega)
  · have c := h.vinj j (k + 1) (by omega) (by omega) (by omega)
    have d := h.vinj (j + 1) k (by omega) (by omega) (by omega)
    omega
  · have c := h.vinj j (k + 1) (by omega) (by omega) (by omega)
    have d := h.vinj (j + 1) k (by omega) (by omega) (by omega)
    omega
  · exact h.vinj j k (by omega) (by omega) (by omega)
theorem Loop.part {M : Nat} {l m : List Pip} {wo : Int} {i0 d : Nat} {v : Nat → Int} {q : Nat → Nat} (h : Loop M l i0 d v q) {a b : Nat} (he : ∀ j, a ≤ j → j < b → Edge m wo (v j) (v (j + 1))) : ∀ n, a + n ≤ b → Way m wo (v a) n (v (a + n))
  | 0, _ => rfl
  | n + 1, hn => ⟨v (a + n), h.part he n (by omega), he (a + n) (by omega) (by omega)⟩

/-- The pipes of the way round, and no others, lie on the loop. -/
theorem Loop.on {M : Nat} {l : List Pip} {i0 d : Nat} {v : Nat → Int} {q : Nat → Nat} (hg : goodNet M l = true) (hr : ringB M l = true) (h : Loop M l i0 d v q) (ho : onL l i0 = true) {i : Nat} (hi : i < l.length) : onL l i = true ↔ i = i0 ∨ ∃ j, j < d ∧ i = q j := by
  constructor
  · intro h1
    apply Classical.byContradiction
    intro hn
    have hn1 : i ≠ i0 := fun e => hn (.inl e)
    have hn2 : ∀ j, j < d → i ≠ q j := fun j hj e => hn (.inr ⟨j, hj, e⟩)
    have hg' := goodNet_sub (List.eraseIdx_sublist l i) hg
    have ht := ring_tree hg hr hi h1
    have hmem : pp l i0 ∈ l.eraseIdx i := (mem_without hg hi).2 ⟨pp_mem h.lt0, ids_ne hg hi h.lt0 (fun e => hn1 e.symm)⟩
    obtain ⟨k, hk, hk2⟩ := List.mem_iff_getElem.1 hmem
    have hpk : pp (l.eraseIdx i) k = pp l i0 := by rw [pp_get hk]; exact hk2
    have v0 := h.vin 0 (by omega)
    have hb := tree_bridge (s := v 0) hg' ht v0 hk
    rw [hpk, ← h.v0, ← h.vd, far_self hg'] at hb
    have hw : Way (l.eraseIdx i) (pp l i0).1 (v 0) d (v (0 + d)) := h.part (b := d) (fun j _ hj => edge_mem.2 ⟨pp l (q j), (mem_without hg hi).2 ⟨pp_mem (h.qlt j hj), ids_ne hg hi (h.qlt j hj) (fun e => hn2 j hj e.symm)⟩, ids_ne hg h.lt0 (h.qlt j hj) (h.qne j hj), h.qst j hj, by have := h.vin (j + 1) (by omega); omega⟩) d (by omega)
    rw [Nat.zero_add] at hw
    exact (hb.1 (far_iff.2 ⟨d, hw⟩)) (by omega)
  · rintro (rfl | ⟨j, hj, rfl⟩)
    · exact ho
    · rw [onL_iff]
      have he : ∀ k, k < d → k ≠ j → Edge l (pp l (q j)).1 (v k) (v (k + 1)) := fun k hk hkj => ⟨q k, h.qlt k hk, ids_ne hg (h.qlt j hj) (h.qlt k hk) (fun e => hkj (h.qinj hk hj e)), h.qst k hk, by have := h.vin (k + 1) (by omega); omega⟩
      have w1 := h.part (a := 0) (b := j) (m := l) (wo := (pp l (q j)).1) (fun k _ hk => he k (by omega) (by omega)) j (by omega)
      have w2 := h.part (a := j + 1) (b := d) (m := l) (wo := (pp l (q j)).1) (fun k hk1 hk => he k (by omega) (by omega)) (d - (j + 1)) (by omega)
      rw [Nat.zero_add] at w1
      rw [show j + 1 + (d - (j + 1)) = d by omega] at w2
      have w3 : Way l (pp l (q j)).1 (v d) 1 (v 0) := ⟨v d, rfl, i0, h.lt0, ids_ne hg (h.qlt j hj) h.lt0 (fun e => h.qne j hj e.symm), by rw [h.vd, h.v0]; simp [oth], by have := h.vin 0 (by omega); omega⟩
      have a := far_trans (far_iff.2 ⟨_, w2⟩) (far_trans (far_iff.2 ⟨_, w3⟩) (far_iff.2 ⟨_, w1⟩))
      rcases h.ends hj with ⟨e1, e2⟩ | ⟨e1, e2⟩
      · rw [← e1, ← e2]; exact far_symm hg a
      · rw [← e1, ← e2]; exact a

/-- The way round, by the way in the tree that is left. -/
theorem loop_is {M : Nat} {l : List Pip} {i0 : Nat} (hg : goodNet M l = true) (hr : ringB M l = true) (hi : i0 < l.length) (ho : onL l i0 = true) : ∃ d : Nat, far (l.eraseIdx i0) 0 (pp l i0).2.1 (pp l i0).2.2.1 = d ∧ Loop M l i0 d (nod (l.eraseIdx i0) (far (l.eraseIdx i0) 0 (pp l i0).2.1) (pp l i0).2.2.1) (fun j => up i0 (kk (l.eraseIdx i0) (far (l.eraseIdx i0) 0 (pp l i0).2.1) (pp l i0).2.2.1 j)) := by
  have hg' := goodNet_sub (List.eraseIdx_sublist l i0) hg
  obtain ⟨-, p1, p2, -, -⟩ := goodNet_pipe hg hi
  have h0 : 0 ≤ far (l.eraseIdx i0) 0 (pp l i0).2.1 (pp l i0).2.2.1 := by rw [far_without hg hi]; exact onL_iff.1 ho
  have hd : far (l.eraseIdx i0) 0 (pp l i0).2.1 (pp l i0).2.2.1 = ((far (l.eraseIdx i0) 0 (pp l i0).2.1 (pp l i0).2.2.1).toNat : Nat) := by omega
  have hlen : (l.eraseIdx i0).length = l.length - 1 := List.length_eraseIdx_of_lt hi
  refine ⟨_, hd, hi, rfl, ?_, ?_, ?_, ?_, ?_, ?_⟩
  · exact (nod_end (t := (pp l i0).2.1) hg' p2.1 p2.2 (by omega)).2 (by omega)
  · exact fun j hj => (nod_ok (t := (pp l i0).2.1) hg' p2.1 p2.2 j (by omega)).1
  · intro j k hj hk e
    have a := (nod_ok (t := (pp l i0).2.1) hg' p2.1 p2.2 j (by omega)).2
    have b := (nod_ok (t := (pp l i0).2.1) hg' p2.1 p2.2 k (by omega)).2
    rw [e] at a
    omega
  · intro j hj
    have := (kk_ok (t := (pp l i0).2.1) (j := j) hg' p2.1 p2.2 (by omega)).1
    show up i0 _ < _
    unfold up
    split <;> omega
  · intro j hj
    show up i0 _ ≠ _
    unfold up
    split <;> omega
  · intro j hj
    show oth (pp l (up i0 _)) _ = _
    rw [← pp_up, nod_succ]

/-- The sign of a pipe of the way, and the row of signs. -/
def sgn (l : List Pip) (v : Nat → Int) (q : Nat → Nat) (j : Nat) : Int := if (pp l (q j)).2.1 = v j then 1 else -1
def sigs (l : List Pip) (i0 : Nat) (v : Nat → Int) (q : Nat → Nat) : Nat → List Int
  | 0 => (List.replicate l.length 0).set i0 1
  | j + 1 => (sigs l i0 v q j).set (q j) (sgn l v q j)
theorem sigs_len (l : List Pip) (i0 : Nat) (v : Nat → Int) (q : Nat → Nat) : ∀ j, (sigs l i0 v q j).length = l.length
  | 0 => by simp [sigs]
  | j + 1 => by unfold sigs; rw [List.length_set, sigs_len l i0 v q j]
theorem sgn_one (l : List Pip) (v : Nat → Int) (q : Nat → Nat) (j : Nat) : sgn l v q j = 1 ∨ sgn l v q j = -1 := by unfold sgn; split <;> simp
theorem set_at {L : List Int} {k i : Nat} {x : Int} (hi : i < L.length) : (L.set k x)[i]?.getD 0 = if k = i then x else L[i]?.getD 0 := by
  rw [List.getElem?_set]
  split
  · rename_i h; subst h; rw [if_pos hi]; rfl
  · rfl
theorem sigs_zero (l : List Pip) (i0 : Nat) (v : Nat → Int) (q : Nat → Nat) {i : Nat} (hi : i < l.length) : ∀ j, (sigs l i0 v q j)[i]?.getD 0 = 0 ↔ i ≠ i0 ∧ ∀ k, k < j → i ≠ q k
  | 0 => by
    unfold sigs
    rw [set_at (by simpa using hi)]
    split
    · rename_i h
      exact ⟨fun e => by omega, fun e => absurd h.symm e.1⟩
    · rename_i h
      exact ⟨fun _ => ⟨fun e => h e.symm, fun k hk => by omega⟩, fun _ => by simp [hi]⟩
  | j + 1 => by
    have ih := sigs_zero l i0 v q hi j
    unfold sigs
    rw [set_at (by rw [sigs_len]; exact hi)]
    split
    · rename_i h
      refine ⟨fun e => ?_, fun e => absurd h.symm (e.2 j (by omega))⟩
      rcases sgn_one l v q j with e1 | e1 <;> omega
    · rename_i h
      rw [ih]
      constructor
      · rintro ⟨a, b⟩
        refine ⟨a, fun k hk => ?_⟩
        by_cases e : k = j
        · subst e; exact fun e => h e.symm
        · exact b k (by omega)
      · rintro ⟨a, b⟩
        exact ⟨a, fun k hk => b k (by omega)⟩
theorem sigs_fit (l : List Pip) (i0 : Nat) (v : Nat → Int) (q : Nat → Nat) {i : Nat} (hi : i < l.length) : ∀ j, -1 ≤ (sigs l i0 v q j)[i]?.getD 0 ∧ (sigs l i0 v q j)[i]?.getD 0 ≤ 1
  | 0 => by
    unfold sigs
    rw [set_at (by simpa using hi)]
    split
    · decide
    · simp [hi]
  | j + 1 => by
    have ih := sigs_fit l i0 v q hi j
    unfold sigs
    rw [set_at (by rw [sigs_len]; exact hi)]
    split
    · rcases sgn_one l v q j with e1 | e1 <;> omega
    · exact ih
/-- The one pipe of the loop that goes on from a node. -/
theorem Loop.pick {M : Nat} {l : List Pip} {i0 d : Nat} {v : Nat → Int} {q : Nat → Nat} (hg : goodNet M l = true) (hr : ringB M l = true) (h : Loop M l i0 d v q) (ho : onL l i0 = true) {i j : Nat} (hi : i < l.length) (hj : j < d) (hon : onL l i = true) : (¬ (sigs l i0 v q j)[i]?.getD 0 = 0 ∨ oth (pp l i) (v j) = 0) ↔ i ≠ q j := by
  rw [sigs_zero l i0 v q hi]
  constructor
  · rintro hx rfl
    rcases hx with hx | hx
    · exact hx ⟨h.qne j hj, fun k hk e => by have := h.qinj hj (by omega) e; omega⟩
    · rw [h.qst j hj] at hx
      have := h.vin (j + 1) (by omega)
      omega
  · intro hne
    rcases (h.on hg hr ho hi).1 hon with rfl | ⟨k, hk, rfl⟩
    · exact .inl (fun e => e.1 rfl)
    · by_cases hkj : k < j
      · exact .inl (fun e => e.2 k hkj rfl)
      · right
        have hkj2 : j < k := by
          apply Classical.byContradiction
          intro h2
          exact hne (by rw [show k = j by omega])
        unfold oth
        rcases h.ends hk with ⟨e1, e2⟩ | ⟨e1, e2⟩
        · rw [if_neg (fun e => by have := h.vinj j k (by omega) (by omega) (by omega); omega), if_neg (fun e => by have := h.vinj j (k + 1) (by omega) (by omega) (by omega); omega)]
        · rw [if_neg (fun e => by have := h.vinj j (k + 1) (by omega) (by omega) (by omega); omega), if_neg (fun e => by have := h.vinj j k (by omega) (by omega) (by omega); omega)]

/-- The signs of all pipes of a ring. -/
noncomputable def loopS (l : List Pip) : List Int :=
  sigs l (firstL l) (nod (l.eraseIdx (firstL l)) (far (l.eraseIdx (firstL l)) 0 (pp l (firstL l)).2.1) (pp l (firstL l)).2.2.1)
    (fun j => up (firstL l) (kk (l.eraseIdx (firstL l)) (far (l.eraseIdx (firstL l)) 0 (pp l (firstL l)).2.1) (pp l (firstL l)).2.2.1 j))
    (far (l.eraseIdx (firstL l)) 0 (pp l (firstL l)).2.1 (pp l (firstL l)).2.2.1).toNat
theorem loopS_len (l : List Pip) : (loopS l).length = l.length := sigs_len _ _ _ _ _
theorem loopS_fit (l : List Pip) {i : Nat} (hi : i < l.length) : -1 ≤ (loopS l)[i]?.getD 0 ∧ (loopS l)[i]?.getD 0 ≤ 1 := sigs_fit _ _ _ _ hi _
/-- A pipe has a sign where it lies on the loop. -/
theorem loopS_on {M : Nat} {l : List Pip} {i : Nat} (hg : goodNet M l = true) (hr : ringB M l = true) (hi : i < l.length) : (loopS l)[i]?.getD 0 = 0 ↔ onL l i = false := by
  obtain ⟨h1, h2, h3⟩ := firstL_ok (ring_on hg hr)
  obtain ⟨d, hd, hl⟩ := loop_is hg hr h1 h2
  have e : (far (l.eraseIdx (firstL l)) 0 (pp l (firstL l)).2.1 (pp l (firstL l)).2.2.1).toNat = d := by omega
  unfold loopS
  rw [sigs_zero _ _ _ _ hi, e, ← Bool.not_eq_true, hl.on hg hr h2 hi]
  constructor
  · rintro ⟨a, b⟩ (c | ⟨j, hj, c⟩)
    · exact a c
    · exact b j hj c
  · intro a
    exact ⟨fun e => a (.inl e), fun k hk e => a (.inr ⟨k, hk, e⟩)⟩

/-- The pipes of the loop among the first. -/
noncomputable def onsL (l : List Pip) : Nat → List Int
  | 0 => []
  | k + 1 => if onL l k = true then onsL l k ++ [(k : Int)] else onsL l k
theorem onsL_yes {l : List Pip} {k : Nat} (h : onL l k = true) : onsL l (k + 1) = onsL l k ++ [(k : Int)] := by rw [onsL, if_pos h]
theorem onsL_no {l : List Pip} {k : Nat} (h : onL l k = false) : onsL l (k + 1) = onsL l k := by rw [onsL, if_neg (by simp [h])]
theorem onsL_len (l : List Pip) : ∀ k, (onsL l k).length ≤ k
  | 0 => Nat.le_refl _
  | k + 1 => by
    have := onsL_len l k
    unfold onsL
    split <;> simp <;> omega
theorem mem_onsL {l : List Pip} {x : Int} : ∀ {k : Nat}, x ∈ onsL l k ↔ ∃ i : Nat, i < k ∧ x = i ∧ onL l i = true
  | 0 => by simp [onsL]
  | k + 1 => by
    cases h : onL l k
    · rw [onsL_no h, mem_onsL]
      constructor
      · rintro ⟨i, a, b, c⟩; exact ⟨i, by omega, b, c⟩
      · rintro ⟨i, a, b, c⟩
        by_cases e : i = k
        · subst e; rw [h] at c; cases c
        · exact ⟨i, by omega, b, c⟩
    · rw [onsL_yes h, List.mem_append, mem_onsL, List.mem_singleton]
      constructor
      · rintro (⟨i, a, b, c⟩ | e)
        · exact ⟨i, by omega, b, c⟩
        · exact ⟨k, by omega, e, h⟩
      · rintro ⟨i, a, b, c⟩
        by_cases e : i = k
        · subst e; exact .inr b
        · exact .inl ⟨i, by omega, b, c⟩
theorem onsL_first {l : List Pip} {i0 : Nat} (h : onL l i0 = true) (hm : ∀ j, j < i0 → onL l j = false) : ∀ k : Nat, (i0 < k → 0 < (onsL l k).length ∧ (onsL l k)[0]?.getD 0 = (i0 : Int)) ∧ (k ≤ i0 → onsL l k = [])
  | 0 => ⟨fun h => by omega, fun _ => rfl⟩
  | k + 1 => by
    obtain ⟨a, b⟩ := onsL_first h hm k
    refine ⟨fun hk => ?_, fun hk => ?_⟩
    · by_cases e : k = i0
      · subst e
        rw [onsL_yes h, b (Nat.le_refl _)]
        simp
      · obtain ⟨a1, a2⟩ := a (by omega)
        cases h2 : onL l k
        · rw [onsL_no h2]; exact ⟨a1, a2⟩
        · rw [onsL_yes h2, List.getElem?_append_left a1]
          exact ⟨by rw [List.length_append]; omega, a2⟩
    · rw [onsL_no (hm k (by omega))]
      exact b (by omega)

/-- A ring's first pipe of the loop, and the way round. -/
theorem loop_data {M : Nat} {l : List Pip} (hg : goodNet M l = true) (hr : ringB M l = true) : ∃ (i0 d : Nat) (v : Nat → Int) (q : Nat → Nat), Loop M l i0 d v q ∧ onL l i0 = true ∧ (∀ j, j < i0 → onL l j = false) ∧ loopS l = sigs l i0 v q d ∧ far (l.eraseIdx i0) 0 (pp l i0).2.1 (pp l i0).2.2.1 = d ∧ ∀ j, j < d → (wids (l.eraseIdx i0) (far (l.eraseIdx i0) 0 (pp l i0).2.1) (pp l i0).2.2.1 d)[j]?.getD 0 = (pp l (q j)).1 := by
  obtain ⟨h1, h2, h3⟩ := firstL_ok (ring_on hg hr)
  obtain ⟨d, hd, hl⟩ := loop_is hg hr h1 h2
  have e : (far (l.eraseIdx (firstL l)) 0 (pp l (firstL l)).2.1 (pp l (firstL l)).2.2.1).toNat = d := by omega
  refine ⟨_, d, _, _, hl, h2, h3, by unfold loopS; rw [e], hd, fun j hj => ?_⟩
  rw [wids_get _ _ _ hj, pp_up]

end Go.Proofs.Ythhogblnndmenaa
