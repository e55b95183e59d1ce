/-
  Networks: which nodes are reached, in plain lists: ascending lists, joined nodes, the number of parts, a pipe left out.
-/
import Derived.Test.YtheaagbffphdmaaNetX
set_option linter.unusedVariables false
set_option linter.unusedSimpArgs false
namespace Go.Proofs.Ytheaagbffphdmaa
open Go.RowKit

/-- Put a number into an ascending list. -/
def ins (x : Int) : List Int → List Int
  | [] => [x]
  | y :: r => if y < x then y :: ins x r else x :: y :: r
def Asc (l : List Int) : Prop := l.Pairwise (· < ·)
theorem mem_ins {x y : Int} {l : List Int} : y ∈ ins x l ↔ y = x ∨ y ∈ l := by
  induction l with
  | nil => simp [ins]
  | cons z r ih =>
    unfold ins
    split
    · simp only [List.mem_cons, ih]
      constructor
      · rintro (h | h | h) <;> simp [h]
      · rintro (h | h | h) <;> simp [h]
    · simp only [List.mem_cons]
theorem ins_len (x : Int) (l : List Int) : (ins x l).length = l.length + 1 := by
  induction l with
  | nil => rfl
  | cons z r ih => unfold ins; split <;> simp [ih]
theorem asc_ins {x : Int} {l : List Int} (h : Asc l) (hx : x ∉ l) : Asc (ins x l) := by
  induction l with
  | nil => simp [ins, Asc]
  | cons z r ih =>
    unfold Asc at h ih ⊢
    rw [List.pairwise_cons] at h
    rw [List.mem_cons, not_or] at hx
    unfold ins
    split
    · rename_i hz
      rw [List.pairwise_cons]
      refine ⟨fun y hy => ?_, ih h.2 hx.2⟩
      rw [mem_ins] at hy
      rcases hy with rfl | hy
      · exact hz
      · exact h.1 y hy
    · rename_i hz
      rw [List.pairwise_cons, List.pairwise_cons]
      refine ⟨fun y hy => ?_, h⟩
      rw [List.mem_cons] at hy
      rcases hy with rfl | hy
      · omega
      · have := h.1 y hy
        omega
theorem ins_cut {x : Int} : ∀ (l : List Int) (k : Nat), k ≤ l.length → (∀ j, j < k → l[j]?.getD 0 < x) → (k < l.length → ¬ l[k]?.getD 0 < x) → ins x l = l.take k ++ x :: l.drop k
  | [], k, hk, _, _ => by
    obtain rfl : k = 0 := by simpa using hk
    rfl
  | y :: r, 0, _, _, h2 => by
    have : ¬ y < x := by simpa using h2 (by simp)
    simp [ins, this]
  | y :: r, k + 1, hk, h1, h2 => by
    have : y < x := by simpa using h1 0 (by omega)
    simp only [ins, this, if_true, List.take_succ_cons, List.drop_succ_cons, List.cons_append, List.cons.injEq, true_and]
    exact ins_cut r k (by simpa using hk) (fun j hj => by simpa using h1 (j + 1) (by omega)) (fun h => by simpa using h2 (by simpa using h))
/-- In an ascending list a number that is not below the place's and is in the list stands there. -/
theorem asc_at {x : Int} : ∀ {l : List Int} {k : Nat}, Asc l → x ∈ l → k ≤ l.length → (∀ j, j < k → l[j]?.getD 0 < x) → (k < l.length → ¬ l[k]?.getD 0 < x) → k < l.length ∧ l[k]?.getD 0 = x
  | [], k, _, h, _, _, _ => by simp at h
  | y :: r, 0, ha, hm, _, _, h2 => by
    unfold Asc at ha
    rw [List.pairwise_cons] at ha
    have h3 : ¬ y < x := by simpa using h2 (by simp)
    rw [List.mem_cons] at hm
    rcases hm with rfl | hm
    · simp
    · exact absurd (ha.1 x hm) h3
  | y :: r, k + 1, ha, hm, hk, h1, h2 => by
    unfold Asc at ha
    rw [List.pairwise_cons] at ha
    have h0 : y < x := by simpa using h1 0 (by omega)
    rw [List.mem_cons] at hm
    rcases hm with rfl | hm
    · omega
    · have := asc_at (l := r) (k := k) ha.2 hm (by simpa using hk) (fun j hj => by simpa using h1 (j + 1) (by omega)) (fun h => by simpa using h2 (by simpa using h))
      simpa using this
theorem asc_ext : ∀ {l m : List Int}, Asc l → Asc m → (∀ x, x ∈ l ↔ x ∈ m) → l = m
  | [], [], _, _, _ => rfl
  | [], y :: r, _, _, h => by have := (h y).2 (by simp); simp at this
  | y :: r, [], _, _, h => by have := (h y).1 (by simp); simp at this
  | y :: r, z :: q, ha, hb, h => by
    unfold Asc at ha hb
    rw [List.pairwise_cons] at ha hb
    have e : y = z := by
      have h1 := (h y).1 (by simp)
      have h2 := (h z).2 (by simp)
      rw [List.mem_cons] at h1 h2
      rcases h1 with h1 | h1
      · exact h1
      · rcases h2 with h2 | h2
        · exact h2.symm
        · have := hb.1 y h1
          have := ha.1 z h2
          omega
    subst e
    rw [asc_ext (l := r) (m := q) ha.2 hb.2 (fun x => by
      have h0 := h x
      rw [List.mem_cons, List.mem_cons] at h0
      constructor
      · intro hx
        rcases h0.1 (.inr hx) with e | e
        · subst e; exact absurd (ha.1 x hx) (by omega)
        · exact e
      · intro hx
        rcases h0.2 (.inr hx) with e | e
        · subst e; exact absurd (hb.1 x hx) (by omega)
        · exact e)]
theorem mem_nonneg {L : List Int} {k : Nat} {x : Int} : x ∈ nonneg L k ↔ ∃ v : Nat, v < k ∧ x = v ∧ 0 ≤ L[v]?.getD 0 := by
  unfold nonneg
  simp only [List.mem_map, List.mem_filter, List.mem_range, decide_eq_true_eq]
  constructor
  · rintro ⟨v, ⟨h1, h2⟩, rfl⟩; exact ⟨v, h1, rfl, h2⟩
  · rintro ⟨v, h1, rfl, h2⟩; exact ⟨v, ⟨h1, h2⟩, rfl⟩
theorem asc_nonneg (L : List Int) (k : Nat) : Asc (nonneg L k) := by
  induction k with
  | zero => simp [nonneg, Asc]
  | succ k ih =>
    by_cases h : 0 ≤ L[k]?.getD 0
    · rw [nonneg_yes h]
      unfold Asc at ih ⊢
      rw [List.pairwise_append]
      refine ⟨ih, by simp, fun a ha b hb => ?_⟩
      obtain ⟨v, hv, rfl, -⟩ := mem_nonneg.1 ha
      simp at hb
      omega
    · rw [nonneg_no h]; exact ih

theorem distL_at {N : Int} {l : List Pip} {wo s : Int} {v : Nat} (hv : (v : Int) ≤ N) (h1 : 1 ≤ v) : (distL N l wo s)[v]?.getD 0 = far l wo s v := by
  unfold distL
  rw [List.getElem?_map, List.getElem?_range (by omega)]
  simp [show v ≠ 0 by omega]
theorem distL_zero {N : Int} {l : List Pip} {wo s : Int} : (distL N l wo s)[0]?.getD 0 = -1 := by
  unfold distL
  rw [List.getElem?_map, List.getElem?_range (by omega)]
  simp
/-- The nodes that are reached, ascending. -/
noncomputable def reachL (N : Int) (l : List Pip) (wo s : Int) : List Int := nonneg (distL N l wo s) (N.toNat + 1)
theorem mem_reachL {N : Int} {l : List Pip} {wo s x : Int} : x ∈ reachL N l wo s ↔ (1 ≤ x ∧ x ≤ N) ∧ 0 ≤ far l wo s x := by
  unfold reachL
  rw [mem_nonneg]
  constructor
  · rintro ⟨v, h1, rfl, h2⟩
    by_cases h0 : v = 0
    · subst h0
      rw [distL_zero] at h2
      omega
    · rw [distL_at (by omega) (by omega)] at h2
      exact ⟨⟨by omega, by omega⟩, h2⟩
  · rintro ⟨⟨h1, h2⟩, h3⟩
    refine ⟨x.toNat, by omega, by omega, ?_⟩
    rw [distL_at (by omega) (by omega), show ((x.toNat : Nat) : Int) = x by omega]
    exact h3
/-- A list that ascends, holds the node, holds reached nodes alone and is closed: all that is reached. -/
theorem reachL_is {N : Int} {l : List Pip} {s : Int} {R : List Int} (hg : goodNet N l = true) (ha : Asc R) (hs : s ∈ R) (hr : ∀ x ∈ R, (1 ≤ x ∧ x ≤ N) ∧ 0 ≤ far l 0 s x) (hc : ∀ k, k < l.length → ((pp l k).2.1 ∈ R ↔ (pp l k).2.2.1 ∈ R)) : R = reachL N l 0 s := by
  refine asc_ext ha (asc_nonneg _ _) (fun x => ?_)
  rw [mem_reachL]
  refine ⟨hr x, fun ⟨⟨h1, h2⟩, h3⟩ => ?_⟩
  refine (far_is (wo := 0) (s := s) hg).reach hg (R := fun v => v ∈ R) hs ?_ (far l 0 s x).toNat x h1 h2 (by omega)
  rintro u v ⟨k, hk, -, ho, hv⟩ hu
  unfold oth at ho
  split at ho
  · rename_i e
    rw [← ho]
    exact (hc k hk).1 (e ▸ hu)
  · split at ho
    · rename_i e
      rw [← ho]
      exact (hc k hk).2 (e ▸ hu)
    · omega
theorem far_self {N : Int} {l : List Pip} {wo s : Int} (hg : goodNet N l = true) : far l wo s s = 0 := (far_is (wo := wo) (s := s) hg).self
theorem reachL_len {N : Int} {l : List Pip} {wo s : Int} : (reachL N l wo s).length ≤ N.toNat := by
  unfold reachL
  have : nonneg (distL N l wo s) (N.toNat + 1) = (((List.range (N.toNat + 1)).filter fun v => decide (0 ≤ (distL N l wo s)[v]?.getD 0))).map fun v : Nat => (v : Int) := rfl
  rw [this, List.length_map, List.range_succ_eq_map, List.filter_cons, if_neg (by simp [distL_zero])]
  exact Nat.le_trans (List.length_filter_le _ _) (by simp)

/-- Two nodes are joined. -/
def Conn (l : List Pip) (u v : Int) : Prop := 0 ≤ far l 0 u v
theorem conn_iff {l : List Pip} {u v : Int} : Conn l u v ↔ ∃ n, Way l 0 u n v := by
  unfold Conn
  constructor
  · intro h
    obtain ⟨m, -, hw, -⟩ := far_some h
    exact ⟨m, hw⟩
  · rintro ⟨n, hn⟩
    obtain ⟨m, -, e, -⟩ := far_way hn
    omega
theorem way_cons {l : List Pip} {wo a b : Int} (he : Edge l wo a b) : ∀ (n : Nat) (v : Int), Way l wo b n v → Way l wo a (n + 1) v
  | 0, v, h => by
    obtain rfl : v = b := h
    exact ⟨a, rfl, he⟩
  | n + 1, v, ⟨u, hu, hv⟩ => ⟨u, way_cons he n u hu, hv⟩
theorem way_symm {N : Int} {l : List Pip} {wo a : Int} (hg : goodNet N l = true) : ∀ (n : Nat) (v : Int), Way l wo a n v → Way l wo v n a
  | 0, v, h => by
    obtain rfl : v = a := h
    rfl
  | n + 1, v, ⟨u, hu, hv⟩ => way_cons (hv.symm hg) n a (way_symm hg n u hu)
theorem way_trans {l : List Pip} {wo a b : Int} {m : Nat} (hm : Way l wo a m b) : ∀ (n : Nat) (v : Int), Way l wo b n v → ∃ k, Way l wo a k v
  | 0, v, h => by
    obtain rfl : v = b := h
    exact ⟨m, hm⟩
  | n + 1, v, ⟨u, hu, hv⟩ => let ⟨k, hk⟩ := way_trans hm n u hu; ⟨k + 1, u, hk, hv⟩
theorem Conn.symm {N : Int} {l : List Pip} {u v : Int} (hg : goodNet N l = true) (h : Conn l u v) : Conn l v u := by
  rw [conn_iff] at h ⊢
  obtain ⟨n, hn⟩ := h
  exact ⟨n, way_symm hg n v hn⟩
theorem Conn.trans {l : List Pip} {u v x : Int} (h : Conn l u v) (k : Conn l v x) : Conn l u x := by
  rw [conn_iff] at h k ⊢
  obtain ⟨n, hn⟩ := h
  obtain ⟨m, hm⟩ := k
  exact way_trans hn m x hm

/-- The nodes up to one that come first in their part. -/
noncomputable def cnt (N : Int) (l : List Pip) : Nat → Nat
  | 0 => 0
  | k + 1 => if (reachL N l 0 ((k : Int) + 1))[0]?.getD 0 = (k : Int) + 1 then cnt N l k + 1 else cnt N l k
theorem cnt_le (N : Int) (l : List Pip) : ∀ k, cnt N l k ≤ k
  | 0 => Nat.le_refl _
  | k + 1 => by
    have := cnt_le N l k
    unfold cnt
    split <;> omega
theorem reachL_ne {N : Int} {l : List Pip} {s : Int} (hg : goodNet N l = true) (hs : 1 ≤ s ∧ s ≤ N) : s ∈ reachL N l 0 s := by
  rw [mem_reachL]
  exact ⟨hs, by rw [far_self hg]; omega⟩
theorem reachL_pos {N : Int} {l : List Pip} {s : Int} (hg : goodNet N l = true) (hs : 1 ≤ s ∧ s ≤ N) : 0 < (reachL N l 0 s).length := List.length_pos_of_mem (reachL_ne hg hs)
/-- The first of a part is its least. -/
theorem reachL_first {N : Int} {l : List Pip} {s : Int} (hg : goodNet N l = true) (hs : 1 ≤ s ∧ s ≤ N) : (reachL N l 0 s)[0]?.getD 0 ∈ reachL N l 0 s ∧ ∀ x ∈ reachL N l 0 s, (reachL N l 0 s)[0]?.getD 0 ≤ x := by
  have h1 := reachL_pos hg hs
  have h2 : Asc (reachL N l 0 s) := asc_nonneg _ _
  generalize reachL N l 0 s = R at *
  cases R with
  | nil => simp at h1
  | cons y r =>
    unfold Asc at h2
    rw [List.pairwise_cons] at h2
    refine ⟨by simp, fun x hx => ?_⟩
    rw [List.mem_cons] at hx
    rcases hx with rfl | hx
    · simp
    · have := h2.1 x hx
      simp
      omega
theorem cnt_one {N : Int} {l : List Pip} (hg : goodNet N l = true) : ∀ k : Nat, 1 ≤ k → (k : Int) ≤ N → 1 ≤ cnt N l k ∧ (cnt N l k = 1 ↔ ∀ v : Int, 1 ≤ v → v ≤ k → Conn l 1 v)
  | 0, h, _ => by omega
  | 1, _, h1 => by
    have hN : 1 ≤ N := by omega
    obtain ⟨a, b⟩ := reachL_first (s := 1) hg ⟨by omega, hN⟩
    have c := (mem_reachL.1 a).1
    have d := b 1 (reachL_ne hg ⟨by omega, hN⟩)
    have e : cnt N l 1 = 1 := by
      unfold cnt
      rw [if_pos]
      · rfl
      · simp only [Int.ofNat_zero, Int.zero_add, Int.natCast_zero]
        omega
    refine ⟨by omega, fun _ v h2 h3 => ?_, fun _ => e⟩
    obtain rfl : v = 1 := by omega
    unfold Conn
    rw [far_self hg]
    omega
  | k + 2, _, h1 => by
    obtain ⟨i1, i2⟩ := cnt_one hg (k + 1) (by omega) (by omega)
    have hv : 1 ≤ ((k + 1 : Nat) : Int) + 1 ∧ ((k + 1 : Nat) : Int) + 1 ≤ N := by omega
    obtain ⟨a, b⟩ := reachL_first hg hv
    have c := (mem_reachL.1 a)
    have d := b _ (reachL_ne hg hv)
    unfold cnt
    split
    · rename_i e
      refine ⟨by omega, fun h => by omega, fun h => ?_⟩
      have h5 : Conn l 1 (((k + 1 : Nat) : Int) + 1) := h _ (by omega) (by omega)
      have h6 : (1 : Int) ∈ reachL N l 0 (((k + 1 : Nat) : Int) + 1) := mem_reachL.2 ⟨by omega, h5.symm hg⟩
      have := b 1 h6
      omega
    · rename_i e
      refine ⟨i1, fun h v h2 h3 => ?_, fun h => i2.2 (fun v h2 h3 => h v h2 (by omega))⟩
      have h4 := i2.1 h
      by_cases hvk : v ≤ ((k + 1 : Nat) : Int)
      · exact h4 v h2 hvk
      · obtain rfl : v = ((k + 1 : Nat) : Int) + 1 := by omega
        have h5 := h4 _ c.1.1 (by omega)
        exact h5.trans (Conn.symm hg c.2)
theorem filter_full {p : Nat → Bool} {l : List Nat} (h : (l.filter p).length = l.length) : ∀ x ∈ l, p x = true := by
  induction l with
  | nil => simp
  | cons y r ih =>
    have h1 := List.length_filter_le p r
    rw [List.filter_cons] at h
    split at h
    · rename_i hy
      intro x hx
      rw [List.mem_cons] at hx
      rcases hx with rfl | hx
      · exact hy
      · exact ih (by simpa using h) x hx
    · simp at h
      omega
theorem reachL_all {N : Int} {l : List Pip} {s : Int} (hN : 0 ≤ N) : ((reachL N l 0 s).length : Int) = N ↔ ∀ v : Int, 1 ≤ v → v ≤ N → Conn l s v := by
  have e : reachL N l 0 s = (((List.range N.toNat).map Nat.succ).filter fun v => decide (0 ≤ (distL N l 0 s)[v]?.getD 0)).map fun v : Nat => (v : Int) := by
    unfold reachL
    have : nonneg (distL N l 0 s) (N.toNat + 1) = (((List.range (N.toNat + 1)).filter fun v => decide (0 ≤ (distL N l 0 s)[v]?.getD 0))).map fun v : Nat => (v : Int) := rfl
    rw [this, List.range_succ_eq_map, List.filter_cons, if_neg (by simp [distL_zero])]
  rw [e, List.length_map]
  constructor
  · intro h v h1 h2
    have := filter_full (l := (List.range N.toNat).map Nat.succ) (p := fun v => decide (0 ≤ (distL N l 0 s)[v]?.getD 0)) (by simp; omega) v.toNat (by simp; exact ⟨v.toNat - 1, by omega, by omega⟩)
    simp only [decide_eq_true_eq] at this
    rw [distL_at (by omega) (by omega), show ((v.toNat : Nat) : Int) = v by omega] at this
    exact this
  · intro h
    rw [List.filter_eq_self.2]
    · simp; omega
    · intro x hx
      simp only [List.mem_map, List.mem_range] at hx
      obtain ⟨y, hy, rfl⟩ := hx
      rw [distL_at (by omega) (by omega)]
      have h3 : 0 ≤ far l 0 s ((y : Int) + 1) := h _ (by omega) (by omega)
      simpa using h3
/-- One part: all nodes are joined with the first. -/
theorem parts_one {N : Int} {l : List Pip} (hg : goodNet N l = true) : cnt N l N.toNat = 1 ↔ ((reachL N l 0 1).length : Int) = N := by
  have hN := (goodNet_get hg).1
  rw [reachL_all (by omega), (cnt_one hg N.toNat (by omega) (by omega)).2]
  exact ⟨fun h v h1 h2 => h v h1 (by omega), fun h v h1 h2 => h v h1 (by omega)⟩

theorem far_congr {l m : List Pip} {wo wo' s : Int} (h : ∀ u v, Edge l wo u v ↔ Edge m wo' u v) : far l wo s = far m wo' s := by
  have hw : ∀ n v, Way l wo s n v ↔ Way m wo' s n v := by
    intro n
    induction n with
    | zero => exact fun v => Iff.rfl
    | succ n ih => exact fun v => ⟨fun ⟨u, a, b⟩ => ⟨u, (ih u).1 a, (h u v).1 b⟩, fun ⟨u, a, b⟩ => ⟨u, (ih u).2 a, (h u v).2 b⟩⟩
  have hw2 : Way l wo s = Way m wo' s := by
    funext n v
    exact propext (hw n v)
  funext v
  by_cases hx : ∃ n, Way l wo s n v
  · obtain ⟨n, hn⟩ := hx
    obtain ⟨a, -, ea, wa, la⟩ := far_way hn
    obtain ⟨b, -, eb, wb, lb⟩ := far_way ((hw n v).1 hn)
    have h1 : ¬ a < b := fun h => lb a h ((hw a v).1 wa)
    have h2 : ¬ b < a := fun h => la b h ((hw b v).2 wb)
    omega
  · have hy : ¬ ∃ n, Way m wo' s n v := fun ⟨n, hn⟩ => hx ⟨n, (hw n v).2 hn⟩
    unfold far
    rw [dif_neg hx, dif_neg hy]

end Go.Proofs.Ytheaagbffphdmaa
