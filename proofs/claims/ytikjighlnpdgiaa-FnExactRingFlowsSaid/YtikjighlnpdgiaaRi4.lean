/-
  Texts of this claim, joined: ReachA, Parts, Put, ReachB.
-/
import Derived.Deep.RegionLaw
import Derived.Test.YtikjighlnpdgiaaRi3
/-
  Networks: which nodes are reached, in plain lists: ascending lists, joined nodes, the number of parts, a pipe left out.
-/
set_option linter.unusedVariables false
set_option linter.unusedSimpArgs false
namespace Go.Proofs.Ytikjighlnpdgiaa
open Go.RowKit

/-- Put a number into an ascending list. -/
def ins (x : Int) : List Int → List Int
  | [] => [x]
  | y :: r => if y < x then y :: ins x r else x :: y :: r
def Asc (l : List Int) : Prop := l.Pairwise (· < ·)
theorem mem_ins {x y : Int} {l : List Int} : y ∈ ins x l ↔ y = x ∨ y ∈ l := by
  induction l with
  | nil => simp [ins]
  | cons z r ih =>
    unfold ins
    split
    · simp only [List.mem_cons, ih]
      constructor
      · rintro (h | h | h) <;> simp [h]
      · rintro (h | h | h) <;> simp [h]
    · simp only [List.mem_cons]
theorem ins_len (x : Int) (l : List Int) : (ins x l).length = l.length + 1 := by
  induction l with
  | nil => rfl
  | cons z r ih => unfold ins; split <;> simp [ih]
theorem asc_ins {x : Int} {l : List Int} (h : Asc l) (hx : x ∉ l) : Asc (ins x l) := by
  induction l with
  | nil => simp [ins, Asc]
  | cons z r ih =>
    unfold Asc at h ih ⊢
    rw [List.pairwise_cons] at h
    rw [List.mem_cons, not_or] at hx
    unfold ins
    split
    · rename_i hz
      rw [List.pairwise_cons]
      refine ⟨fun y hy => ?_, ih h.2 hx.2⟩
      rw [mem_ins] at hy
      rcases hy with rfl | hy
      · exact hz
      · exact h.1 y hy
    · rename_i hz
      rw [List.pairwise_cons, List.pairwise_cons]
      refine ⟨fun y hy => ?_, h⟩
      rw [List.mem_cons] at hy
      rcases hy with rfl | hy
      · omega
      · have := h.1 y hy
        omega
theorem ins_cut {x : Int} : ∀ (l : List Int) (k : Nat), k ≤ l.length → (∀ j, j < k → l[j]?.getD 0 < x) → (k < l.length → ¬ l[k]?.getD 0 < x) → ins x l = l.take k ++ x :: l.drop k
  | [], k, hk, _, _ => by
    obtain rfl : k = 0 := by simpa using hk
    rfl
  | y :: r, 0, _, _, h2 => by
    have : ¬ y < x := by simpa using h2 (by simp)
    simp [ins, this]
  | y :: r, k + 1, hk, h1, h2 => by
    have : y < x := by simpa using h1 0 (by omega)
    simp only [ins, this, if_true, List.take_succ_cons, List.drop_succ_cons, List.cons_append, List.cons.injEq, true_and]
    exact ins_cut r k (by simpa using hk) (fun j hj => by simpa using h1 (j + 1) (by omega)) (fun h => by simpa using h2 (by simpa using h))
/-- In an ascending list a number that is not below the place's and is in the list stands there. -/
theorem asc_at {x : Int} : ∀ {l : List Int} {k : Nat}, Asc l → x ∈ l → k ≤ l.length → (∀ j, j < k → l[j]?.getD 0 < x) → (k < l.length → ¬ l[k]?.getD 0 < x) → k < l.length ∧ l[k]?.getD 0 = x
  | [], k, _, h, _, _, _ => by simp at h
  | y :: r, 0, ha, hm, _, _, h2 => by
    unfold Asc at ha
    rw [List.pairwise_cons] at ha
    have h3 : ¬ y < x := by simpa using h2 (by simp)
    rw [List.mem_cons] at hm
    rcases hm with rfl | hm
    · simp
    · exact absurd (ha.1 x hm) h3
  | y :: r, k + 1, ha, hm, hk, h1, h2 => by
    unfold Asc at ha
    rw [List.pairwise_cons] at ha
    have h0 : y < x := by simpa using h1 0 (by omega)
    rw [List.mem_cons] at hm
    rcases hm with rfl | hm
    · omega
    · have := asc_at (l := r) (k := k) ha.2 hm (by simpa using hk) (fun j hj => by simpa using h1 (j + 1) (by omega)) (fun h => by simpa using h2 (by simpa using h))
      simpa using this
theorem asc_ext : ∀ {l m : List Int}, Asc l → Asc m → (∀ x, x ∈ l ↔ x ∈ m) → l = m
  | [], [], _, _, _ => rfl
  | [], y :: r, _, _, h => by have := (h y).2 (by simp); simp at this
  | y :: r, [], _, _, h => by have := (h y).1 (by simp); simp at this
  | y :: r, z :: q, ha, hb, h => by
    unfold Asc at ha hb
    rw [List.pairwise_cons] at ha hb
    have e : y = z := by
      have h1 := (h y).1 (by simp)
      have h2 := (h z).2 (by simp)
      rw [List.mem_cons] at h1 h2
      rcases h1 with h1 | h1
      · exact h1
      · rcases h2 with h2 | h2
        · exact h2.symm
        · have := hb.1 y h1
          have := ha.1 z h2
          omega
    subst e
    rw [asc_ext (l := r) (m := q) ha.2 hb.2 (fun x => by
      have h0 := h x
      rw [List.mem_cons, List.mem_cons] at h0
      constructor
      · intro hx
        rcases h0.1 (.inr hx) with e | e
        · subst e; exact absurd (ha.1 x hx) (by omega)
        · exact e
      · intro hx
        rcases h0.2 (.inr hx) with e | e
        · subst e; exact absurd (hb.1 x hx) (by omega)
        · exact e)]
theorem mem_nonneg {L : List Int} {k : Nat} {x : Int} : x ∈ nonneg L k ↔ ∃ v : Nat, v < k ∧ x = v ∧ 0 ≤ L[v]?.getD 0 := by
  unfold nonneg
  simp only [List.mem_map, List.mem_filter, List.mem_range, decide_eq_true_eq]
  constructor
  · rintro ⟨v, ⟨h1, h2⟩, rfl⟩; exact ⟨v, h1, rfl, h2⟩
  · rintro ⟨v, h1, rfl, h2⟩; exact ⟨v, ⟨h1, h2⟩, rfl⟩
theorem asc_nonneg (L : List Int) (k : Nat) : Asc (nonneg L k) := by
  induction k with
  | zero => simp [nonneg, Asc]
  | succ k ih =>
    by_cases h : 0 ≤ L[k]?.getD 0
    · rw [nonneg_yes h]
      unfold Asc at ih ⊢
      rw [List.pairwise_append]
      refine ⟨ih, by simp, fun a ha b hb => ?_⟩
      obtain ⟨v, hv, rfl, -⟩ := mem_nonneg.1 ha
      simp at hb
      omega
    · rw [nonneg_no h]; exact ih

theorem distL_at {N : Int} {l : List Pip} {wo s : Int} {v : Nat} (hv : (v : Int) ≤ N) (h1 : 1 ≤ v) : (distL N l wo s)[v]?.getD 0 = far l wo s v := by
  unfold distL
  rw [List.getElem?_map, List.getElem?_range (by omega)]
  simp [show v ≠ 0 by omega]
theorem distL_zero {N : Int} {l : List Pip} {wo s : Int} : (distL N l wo s)[0]?.getD 0 = -1 := by
  unfold distL
  rw [List.getElem?_map, List.getElem?_range (by omega)]
  simp
/-- The nodes that are reached, ascending. -/
noncomputable def reachL (N : Int) (l : List Pip) (wo s : Int) : List Int := nonneg (distL N l wo s) (N.toNat + 1)
theorem mem_reachL {N : Int} {l : List Pip} {wo s x : Int} : x ∈ reachL N l wo s ↔ (1 ≤ x ∧ x ≤ N) ∧ 0 ≤ far l wo s x := by
  unfold reachL
  rw [mem_nonneg]
  constructor
  · rintro ⟨v, h1, rfl, h2⟩
    by_cases h0 : v = 0
    · subst h0
      rw [distL_zero] at h2
      omega
    · rw [distL_at (by omega) (by omega)] at h2
      exact ⟨⟨by omega, by omega⟩, h2⟩
  · rintro ⟨⟨h1, h2⟩, h3⟩
    refine ⟨x.toNat, by omega, by omega, ?_⟩
    rw [distL_at (by omega) (by omega), show ((x.toNat : Nat) : Int) = x by omega]
    exact h3
/-- A list that ascends, holds the node, holds reached nodes alone and is closed: all that is reached. -/
theorem reachL_is {N : Int} {l : List Pip} {s : Int} {R : List Int} (hg : goodNet N l = true) (ha : Asc R) (hs : s ∈ R) (hr : ∀ x ∈ R, (1 ≤ x ∧ x ≤ N) ∧ 0 ≤ far l 0 s x) (hc : ∀ k, k < l.length → ((pp l k).2.1 ∈ R ↔ (pp l k).2.2.1 ∈ R)) : R = reachL N l 0 s := by
  refine asc_ext ha (asc_nonneg _ _) (fun x => ?_)
  rw [mem_reachL]
  refine ⟨hr x, fun ⟨⟨h1, h2⟩, h3⟩ => ?_⟩
  refine (far_is (wo := 0) (s := s) hg).reach hg (R := fun v => v ∈ R) hs ?_ (far l 0 s x).toNat x h1 h2 (by omega)
  rintro u v ⟨k, hk, -, ho, hv⟩ hu
  unfold oth at ho
  split at ho
  · rename_i e
    rw [← ho]
    exact (hc k hk).1 (e ▸ hu)
  · split at ho
    · rename_i e
      rw [← ho]
      exact (hc k hk).2 (e ▸ hu)
    · omega
theorem far_self {N : Int} {l : List Pip} {wo s : Int} (hg : goodNet N l = true) : far l wo s s = 0 := (far_is (wo := wo) (s := s) hg).self
theorem reachL_len {N : Int} {l : List Pip} {wo s : Int} : (reachL N l wo s).length ≤ N.toNat := by
  unfold reachL
  have : nonneg (distL N l wo s) (N.toNat + 1) = (((List.range (N.toNat + 1)).filter fun v => decide (0 ≤ (distL N l wo s)[v]?.getD 0))).map fun v : Nat => (v : Int) := rfl
  rw [this, List.length_map, List.range_succ_eq_map, List.filter_cons, if_neg (by simp [distL_zero])]
  exact Nat.le_trans (List.length_filter_le _ _) (by simp)

/-- Two nodes are joined. -/
def Conn (l : List Pip) (u v : Int) : Prop := 0 ≤ far l 0 u v
theorem conn_iff {l : List Pip} {u v : Int} : Conn l u v ↔ ∃ n, Way l 0 u n v := by
  unfold Conn
  constructor
  · intro h
    obtain ⟨m, -, hw, -⟩ := far_some h
    exact ⟨m, hw⟩
  · rintro ⟨n, hn⟩
    obtain ⟨m, -, e, -⟩ := far_way hn
    omega
theorem way_cons {l : List Pip} {wo a b : Int} (he : Edge l wo a b) : ∀ (n : Nat) (v : Int), Way l wo b n v → Way l wo a (n + 1) v
  | 0, v, h => by
    obtain rfl : v = b := h
    exact ⟨a, rfl, he⟩
  | n + 1, v, ⟨u, hu, hv⟩ => ⟨u, way_cons he n u hu, hv⟩
theorem way_symm {N : Int} {l : List Pip} {wo a : Int} (hg : goodNet N l = true) : ∀ (n : Nat) (v : Int), Way l wo a n v → Way l wo v n a
  | 0, v, h => by
    obtain rfl : v = a := h
    rfl
  | n + 1, v, ⟨u, hu, hv⟩ => way_cons (hv.symm hg) n a (way_symm hg n u hu)
theorem way_trans {l : List Pip} {wo a b : Int} {m : Nat} (hm : Way l wo a m b) : ∀ (n : Nat) (v : Int), Way l wo b n v → ∃ k, Way l wo a k v
  | 0, v, h => by
    obtain rfl : v = b := h
    exact ⟨m, hm⟩
  | n + 1, v, ⟨u, hu, hv⟩ => let ⟨k, hk⟩ := way_trans hm n u hu; ⟨k + 1, u, hk, hv⟩
theorem Conn.symm {N : Int} {l : List Pip} {u v : Int} (hg : goodNet N l = true) (h : Conn l u v) : Conn l v u := by
  rw [conn_iff] at h ⊢
  obtain ⟨n, hn⟩ := h
  exact ⟨n, way_symm hg n v hn⟩
theorem Conn.trans {l : List Pip} {u v x : Int} (h : Conn l u v) (k : Conn l v x) : Conn l u x := by
  rw [conn_iff] at h k ⊢
  obtain ⟨n, hn⟩ := h
  obtain ⟨m, hm⟩ := k
  exact way_trans hn m x hm

/-- The nodes up to one that come first in their part. -/
noncomputable def cnt (N : Int) (l : List Pip) : Nat → Nat
  | 0 => 0
  | k + 1 => if (reachL N l 0 ((k : Int) + 1))[0]?.getD 0 = (k : Int) + 1 then cnt N l k + 1 else cnt N l k
theorem cnt_le (N : Int) (l : List Pip) : ∀ k, cnt N l k ≤ k
  | 0 => Nat.le_refl _
  | k + 1 => by
    have := cnt_le N l k
    unfold cnt
    split <;> omega
theorem reachL_ne {N : Int} {l : List Pip} {s : Int} (hg : goodNet N l = true) (hs : 1 ≤ s ∧ s ≤ N) : s ∈ reachL N l 0 s := by
  rw [mem_reachL]
  exact ⟨hs, by rw [far_self hg]; omega⟩
theorem reachL_pos {N : Int} {l : List Pip} {s : Int} (hg : goodNet N l = true) (hs : 1 ≤ s ∧ s ≤ N) : 0 < (reachL N l 0 s).length := List.length_pos_of_mem (reachL_ne hg hs)
/-- The first of a part is its least. -/
theorem reachL_first {N : Int} {l : List Pip} {s : Int} (hg : goodNet N l = true) (hs : 1 ≤ s ∧ s ≤ N) : (reachL N l 0 s)[0]?.getD 0 ∈ reachL N l 0 s ∧ ∀ x ∈ reachL N l 0 s, (reachL N l 0 s)[0]?.getD 0 ≤ x := by
  have h1 := reachL_pos hg hs
  have h2 : Asc (reachL N l 0 s) := asc_nonneg _ _
  generalize reachL N l 0 s = R at *
  cases R with
  | nil => simp at h1
  | cons y r =>
    unfold Asc at h2
    rw [List.pairwise_cons] at h2
    refine ⟨by simp, fun x hx => ?_⟩
    rw [List.mem_cons] at hx
    rcases hx with rfl | hx
    · simp
    · have := h2.1 x hx
      simp
      omega
theorem cnt_one {N : Int} {l : List Pip} (hg : goodNet N l = true) : ∀ k : Nat, 1 ≤ k → (k : Int) ≤ N → 1 ≤ cnt N l k ∧ (cnt N l k = 1 ↔ ∀ v : Int, 1 ≤ v → v ≤ k → Conn l 1 v)
  | 0, h, _ => by omega
  | 1, _, h1 => by
    have hN : 1 ≤ N := by omega
    obtain ⟨a, b⟩ := reachL_first (s := 1) hg ⟨by omega, hN⟩
    have c := (mem_reachL.1 a).1
    have d := b 1 (reachL_ne hg ⟨by omega, hN⟩)
    have e : cnt N l 1 = 1 := by
      unfold cnt
      rw [if_pos]
      · rfl
      · simp only [Int.ofNat_zero, Int.zero_add, Int.natCast_zero]
        omega
    refine ⟨by omega, fun _ v h2 h3 => ?_, fun _ => e⟩
    obtain rfl : v = 1 := by omega
    unfold Conn
    rw [far_self hg]
    omega
  | k + 2, _, h1 => by
    obtain ⟨i1, i2⟩ := cnt_one hg (k + 1) (by omega) (by omega)
    have hv : 1 ≤ ((k + 1 : Nat) : Int) + 1 ∧ ((k + 1 : Nat) : Int) + 1 ≤ N := by omega
    obtain ⟨a, b⟩ := reachL_first hg hv
    have c := (mem_reachL.1 a)
    have d := b _ (reachL_ne hg hv)
    unfold cnt
    split
    · rename_i e
      refine ⟨by omega, fun h => by omega, fun h => ?_⟩
      have h5 : Conn l 1 (((k + 1 : Nat) : Int) + 1) := h _ (by omega) (by omega)
      have h6 : (1 : Int) ∈ reachL N l 0 (((k + 1 : Nat) : Int) + 1) := mem_reachL.2 ⟨by omega, h5.symm hg⟩
      have := b 1 h6
      omega
    · rename_i e
      refine ⟨i1, fun h v h2 h3 => ?_, fun h => i2.2 (fun v h2 h3 => h v h2 (by omega))⟩
      have h4 := i2.1 h
      by_cases hvk : v ≤ ((k + 1 : Nat) : Int)
      · exact h4 v h2 hvk
      · obtain rfl : v = ((k + 1 : Nat) : Int) + 1 := by omega
        have h5 := h4 _ c.1.1 (by omega)
        exact h5.trans (Conn.symm hg c.2)
theorem filter_full {p : Nat → Bool} {l : List Nat} (h : (l.filter p).length = l.length) : ∀ x ∈ l, p x = true := by
  induction l with
  | nil => simp
  | cons y r ih =>
    have h1 := List.length_filter_le p r
    rw [List.filter_cons] at h
    split at h
    · rename_i hy
      intro x hx
      rw [List.mem_cons] at hx
      rcases hx with rfl | hx
      · exact hy
      · exact ih (by simpa using h) x hx
    · simp at h
      omega
theorem reachL_all {N : Int} {l : List Pip} {s : Int} (hN : 0 ≤ N) : ((reachL N l 0 s).length : Int) = N ↔ ∀ v : Int, 1 ≤ v → v ≤ N → Conn l s v := by
  have e : reachL N l 0 s = (((List.range N.toNat).map Nat.succ).filter fun v => decide (0 ≤ (distL N l 0 s)[v]?.getD 0)).map fun v : Nat => (v : Int) := by
    unfold reachL
    have : nonneg (distL N l 0 s) (N.toNat + 1) = (((List.range (N.toNat + 1)).filter fun v => decide (0 ≤ (distL N l 0 s)[v]?.getD 0))).map fun v : Nat => (v : Int) := rfl
    rw [this, List.range_succ_eq_map, List.filter_cons, if_neg (by simp [distL_zero])]
  rw [e, List.length_map]
  constructor
  · intro h v h1 h2
    have := filter_full (l := (List.range N.toNat).map Nat.succ) (p := fun v => decide (0 ≤ (distL N l 0 s)[v]?.getD 0)) (by simp; omega) v.toNat (by simp; exact ⟨v.toNat - 1, by omega, by omega⟩)
    simp only [decide_eq_true_eq] at this
    rw [distL_at (by omega) (by omega), show ((v.toNat : Nat) : Int) = v by omega] at this
    exact this
  · intro h
    rw [List.filter_eq_self.2]
    · simp; omega
    · intro x hx
      simp only [List.mem_map, List.mem_range] at hx
      obtain ⟨y, hy, rfl⟩ := hx
      rw [distL_at (by omega) (by omega)]
      have h3 : 0 ≤ far l 0 s ((y : Int) + 1) := h _ (by omega) (by omega)
      simpa using h3
/-- One part: all nodes are joined with the first. -/
theorem parts_one {N : Int} {l : List Pip} (hg : goodNet N l = true) : cnt N l N.toNat = 1 ↔ ((reachL N l 0 1).length : Int) = N := by
  have hN := (goodNet_get hg).1
  rw [reachL_all (by omega), (cnt_one hg N.toNat (by omega) (by omega)).2]
  exact ⟨fun h v h1 h2 => h v h1 (by omega), fun h v h1 h2 => h v h1 (by omega)⟩

theorem far_congr {l m : List Pip} {wo wo' s : Int} (h : ∀ u v, Edge l wo u v ↔ Edge m wo' u v) : far l wo s = far m wo' s := by
  have hw : ∀ n v, Way l wo s n v ↔ Way m wo' s n v := by
    intro n
    induction n with
    | zero => exact fun v => Iff.rfl
    | succ n ih => exact fun v => ⟨fun ⟨u, a, b⟩ => ⟨u, (ih u).1 a, (h u v).1 b⟩, fun ⟨u, a, b⟩ => ⟨u, (ih u).2 a, (h u v).2 b⟩⟩
  have hw2 : Way l wo s = Way m wo' s := by
    funext n v
    exact propext (hw n v)
  funext v
  by_cases hx : ∃ n, Way l wo s n v
  · obtain ⟨n, hn⟩ := hx
    obtain ⟨a, -, ea, wa, la⟩ := far_way hn
    obtain ⟨b, -, eb, wb, lb⟩ := far_way ((hw n v).1 hn)
    have h1 : ¬ a < b := fun h => lb a h ((hw a v).1 wa)
    have h2 : ¬ b < a := fun h => la b h ((hw b v).2 wb)
    omega
  · have hy : ¬ ∃ n, Way m wo' s n v := fun ⟨n, hn⟩ => hx ⟨n, (hw n v).2 hn⟩
    unfold far
    rw [dif_neg hx, dif_neg hy]

end Go.Proofs.Ytikjighlnpdgiaa

/-
  Networks: the parts of a network, and rings and trees, in the program.
-/
set_option linter.unusedVariables false
set_option linter.unusedSimpArgs false
namespace Go.Proofs.Ytikjighlnpdgiaa
open Go.RowKit

theorem Try.infoRow : (Try.prog.info? 25).map (fun i => (i.zero, i.size, i.bytes)) = some (some (.slice none 0 0), 1, 24) := by kernel_rfl

theorem cnt_yes {N : Int} {l : List Pip} {k : Nat} (h : (reachL N l 0 ((k : Int) + 1))[0]?.getD 0 = (k : Int) + 1) : cnt N l (k + 1) = cnt N l k + 1 := by
  conv => lhs; unfold cnt
  rw [if_pos h]
theorem cnt_no {N : Int} {l : List Pip} {k : Nat} (h : (reachL N l 0 ((k : Int) + 1))[0]?.getD 0 ≠ (k : Int) + 1) : cnt N l (k + 1) = cnt N l k := by
  conv => lhs; unfold cnt
  rw [if_neg h]

set_option maxRecDepth 100000 in
set_option maxHeartbeats 2000000 in
theorem i_networkParts (M : Nat) (a : Option Addr) (n c : Nat) (l : List Pip) (w : World) (h : QAt w a n l) (hg : goodNet M l = true) :
    Calls Try.prog 97 #[.agg #[.int .i64 M, .slice a n c]] w fun e w' => ∃ a' c', e = .returned (.slice a' (cnt M l M) c') ∧ Below w.heap.size w w' := by
  have hM : M ≤ 8 := by have := (goodNet_get hg).1; omega
  obtain ⟨i0, hi, hz0, hz1, hz2⟩ := info_parts Try.infoRow
  have HI := hid hi
  have HZ := hid hz0
  have HZ1 := hid hz1
  have HZ2 := hid hz2
  have H := hid h
  have HG := hid hg
  clear h hg hi hz0 hz1 hz2
  go_enter Try.func97, Try.ntmps97
  go_wp2
  go_loopg [3, 4] (M + 1) (fun g o i wr => ∃ (k : Nat) (a' : Option Addr) (c' : Nat), k ≤ M ∧ g = M + 1 - k ∧ i = .int .i64 ((k : Int) + 1) ∧ o = .slice a' (cnt M l k) c' ∧ Hid (∃ xs, wr.ownsRow (w.heap.size + 1) 25 1 (.slice a' (cnt M l k) c') (cnt M l k) xs) ∧ Hid (Below w.heap.size w wr ∧ wr.cell? ⟨w.heap.size, 0, none⟩ = some (.int .i64 M) ∧ wr.cell? ⟨w.heap.size, 1, none⟩ = some (.slice a n c)))
  case atStart =>
    refine ⟨0, some ⟨w.heap.size + 1, 0, none⟩, 0, Nat.zero_le _, by omega, rfl, rfl, hid ⟨[], ?_⟩, hid ⟨by go_grown, ?_, ?_⟩⟩
    · have := World.ownsRow_lit (base := w.heap.size + 1) (e := 25) (size := 1) (w.alloc (.cells #[.int .i64 M, .slice a n c] 31)) #[] 0 (by simp) (by decide) rfl
      rw [show cnt (M : Int) l 0 = 0 from rfl]
      simpa using this
    · rw [cell_of_row _ _ _ _ _ (0, 0) (mid_new w _ _ _ rfl)]; rfl
    · rw [cell_of_row _ _ _ _ _ (0, 0) (mid_new w _ _ _ rfl)]; rfl
  case round =>
    obtain ⟨k, a', c', hk, rfl, rfl, rfl, ho, hh⟩ := hrel
    obtain ⟨hb, n0, n1⟩ := hh.out
    have hz0 : w.heap.size < wr.heap.size := World.block_lt_of_cell? wr _ n0
    have hcl := cnt_le M l k
    have HB := hid hb
    clear hb
    by_cases hlt : k < M
    · have hkm : (k : Int) + 1 ≤ (M : Int) := by omega
      go_wp2_with fail
      refine (i_reachedFrom M ((k : Int) + 1) _ _ _ l _ (H.out.below HB.out) HG.out ⟨by omega, by omega⟩).mono ?_
      rintro e w1 ⟨a1, c1, rfl, ho1, hb1⟩
      have E := hid (show nonneg (distL M l 0 ((k : Int) + 1)) (M + 1) = reachL M l 0 ((k : Int) + 1) from rfl)
      rw [E.out] at ho1 ⊢
      have hp := reachL_pos (l := l) (s := (k : Int) + 1) HG.out ⟨by omega, by omega⟩
      have hl9 := reachL_len (N := (M : Int)) (l := l) (wo := 0) (s := (k : Int) + 1)
      obtain ⟨g1, rfl, hg1, hg2⟩ := own_some ho1 hp
      have hcell := ho1.cell (k := 0) hp
      have HO1 := hid ho1
      have S1 := hid (show Below w.heap.size w w1 ∧ w1.cell? ⟨w.heap.size, 0, none⟩ = some (.int .i64 M) ∧ w1.cell? ⟨w.heap.size, 1, none⟩ = some (.slice a n c) from ⟨bstep HB.out hb1, by rw [hb1.cell (p := ⟨w.heap.size, 0, none⟩) hz0]; exact n0, by rw [hb1.cell (p := ⟨w.heap.size, 1, none⟩) hz0]; exact n1⟩)
      have O1 : Hid (∃ xs, w1.ownsRow (w.heap.size + 1) 25 1 (.slice a' (cnt M l k) c') (cnt M l k) xs) := hid (let ⟨xs, hx⟩ := ho.out; ⟨xs, World.ownsRow.kept hx (grown_of_below hb1 none) (by cases hq : Value.ownBlock (.slice a' (cnt M l k) c') <;> simp)⟩)
      clear ho1 ho hb1 n0 n1
      obtain ⟨R, hR⟩ : ∃ R, reachL M l 0 ((k : Int) + 1) = R := ⟨_, rfl⟩
      have HR := hid hR
      rw [hR] at hcell hp hl9 ⊢
      clear hR
      obtain ⟨x0, hx0⟩ : ∃ x0, R[0]?.getD 0 = x0 := ⟨_, rfl⟩
      obtain ⟨r0, hr0⟩ : ∃ r0, R.length = r0 := ⟨_, rfl⟩
      rw [hx0] at hcell
      rw [hr0] at hp hl9 ⊢
      have HX0 := hid hx0
      clear hx0 hr0
      by_cases he : x0 = (k : Int) + 1
      · have EC := hid (cnt_yes (N := (M : Int)) (l := l) (k := k) (by rw [HR.out, HX0.out]; exact he))
        have he1 : x0 ≤ (k : Int) + 1 := by omega
        have he2 : (k : Int) + 1 ≤ x0 := by omega
        clear he
        go_wp2_with (at_builtin; refine wp_append_cells _ rfl _ _ _ rfl (w.heap.size + 1) 25 i0 (.slice none 0 0) 1 24 Try.underlying94 HI.out HZ.out HZ1.out HZ2.out rfl (by decide) (.slice a' (cnt M l k) c') (cnt M l k) (Classical.choose O1.out) rfl ((Classical.choose_spec O1.out).alloc _) (some ⟨w1.heap.size, 0, none⟩) 1 1 [.slice (some ⟨g1, 0, none⟩) r0 c1] rfl ⟨rfl, by simp, fun ad had j u hu => by cases had; exact World.news_of_block (cs := #[.slice (some ⟨g1, 0, none⟩) r0 c1]) (t := 25) (fr := (0, 0)) (heap_alloc_new w1 _) j u hu, by simp [Value.oneCell']⟩ (by unfold maxLen; omega) (by omega) (by have := S1.out.1.size; simp; omega) ?_)
        intro v9 w9 hown hgrow hblk
        obtain ⟨g9, c9, rfl, hg9, hg9w⟩ := hown.form (by omega)
        have S9 := hid (show Below w.heap.size w w9 ∧ w9.cell? ⟨w.heap.size, 0, none⟩ = some (.int .i64 M) ∧ w9.cell? ⟨w.heap.size, 1, none⟩ = some (.slice a n c) from by
          have hz1 : w.heap.size < w1.heap.size := World.block_lt_of_cell? w1 _ S1.out.2.1
          have hne : ∀ q, Value.ownBlock (.slice a' (cnt M l k) c') = some q → w.heap.size + 1 ≤ q := fun q hq => (World.ownsRow.lt (Classical.choose_spec O1.out) q hq).1
          have hne0 : some w.heap.size ≠ Value.ownBlock (.slice a' (cnt M l k) c') := fun e => by have := hne _ e.symm; omega
          have hk0 := bcell ((Below.refl w1.heap.size w1).alloc (Nat.le_refl _) (.cells #[.slice (some ⟨g1, 0, none⟩) r0 c1] 25))
          refine ⟨(S1.out.1.alloc S1.out.1.size _).grown hgrow (by simp; omega) (fun q hq => by have := hne q hq; omega), ?_, ?_⟩
          · rw [hgrow.cell_far _ (by simp; omega) hne0, hk0.1 _ _ hz1]; exact S1.out.2.1
          · rw [hgrow.cell_far _ (by simp; omega) hne0, hk0.1 _ _ hz1]; exact S1.out.2.2)
        have O9 : Hid (∃ xs, w9.ownsRow (w.heap.size + 1) 25 1 (.slice (some ⟨g9, 0, none⟩) (cnt M l (k + 1)) c9) (cnt M l (k + 1)) xs) := hid (by rw [EC.out]; exact ⟨_, hown⟩)
        clear hown hgrow hblk
        go_wp2
        go_roundg (M + 1 - (k + 1))
        case rel => exact ⟨k + 1, some ⟨g9, 0, none⟩, c9, by omega, rfl, by go_num, by rw [EC.out], O9, S9⟩
        case measure => omega
      · have EC := hid (cnt_no (N := (M : Int)) (l := l) (k := k) (by rw [HR.out, HX0.out]; exact he))
        go_wp2
        go_roundg (M + 1 - (k + 1))
        case rel => exact ⟨k + 1, a', c', by omega, rfl, by go_num, by rw [EC.out], by rw [EC.out]; exact O1, S1⟩
        case measure => omega
    · obtain rfl : k = M := by omega
      go_wp2
      go_ret
      exact ⟨_, _, rfl, HB.out⟩

end Go.Proofs.Ytikjighlnpdgiaa

/-
  The reference's own way to put a number into an ascending list.
-/
set_option linter.unusedVariables false
set_option linter.unusedSimpArgs false
namespace Go.Proofs.Ytikjighlnpdgiaa
open Go.RowKit

theorem step_append_ints {ops : Array Oper} {o : Oper} {a : Act} {K : Act → World → Prop} {Q : Exit → Act → World → Prop} {E : Prop} {w : World} (hgd : o.guard = none) (s x : Operand)
    (ho : o.op = .call { callee := .builtin .append, args := #[s, x], argTypes := #[25, 25] })
    (B : Nat) (v : Value) (l : List Int) (hs : a.eval s = v) (hown : OwnI w B v l)
    (ax : Option Addr) (m c : Nat) (l2 : List Int) (hx : a.eval x = .slice ax m c) (hat : IntsAt w ax m l2)
    (N : Nat) (hN : l.length + m = N) (hb : N ≤ 1099511627776) (hB : B ≤ w.heap.size)
    (h : ∀ a' c' w', OwnI w' B (.slice a' N c') (l ++ l2) → w.grownBy w' v.ownBlock → (Value.ownBlock (.slice a' N c') = v.ownBlock ∨ Value.ownBlock (.slice a' N c') = some w.heap.size) → K (a.put o.dst (.slice a' N c')) w') :
    if Region.wanted o (yielded ops a.tmps) = true then Oper.wp Try.prog o a w K Q else E := by
  have hw : Region.wanted o (yielded ops a.tmps) = true := by simp [Region.wanted, hgd]
  rw [if_pos hw]
  obtain ⟨i0, hi, hz0, hz1, hz2⟩ := info_parts Try.infoInt
  obtain ⟨h1, h2, h3, h4⟩ := hat.cells
  cases ax with
  | some ad =>
    obtain ⟨v', w', hrun, k1, k2, _⟩ := run_append_own (P := Try.prog) w B 25 o.type 3 i0 (.int .i64 0) 1 8 Try.underlying25 hi hz0 hz1 hz2 rfl (by decide) v l.length _ hown ad m c _ h1 (h3 ad rfl) h4 (by unfold maxLen; omega) (by omega) hB
    have k3 := append_block w B 25 o.type 3 i0 (.int .i64 0) 1 8 Try.underlying25 hi hz0 hz1 hz2 v l.length _ hown ad m c _ h1 (h3 ad rfl) h4 (by unfold maxLen; omega) (by omega) hrun
    have ho2 : OwnI w' B v' (l ++ l2) := OwnI.of_row (n := l.length + m) (by rw [List.map_append]; exact k1)
    obtain ⟨a', c', rfl⟩ := ho2.form
    have e : (l ++ l2).length = N := by rw [List.length_append, hat.1]; exact hN
    rw [e] at ho2 hrun k3
    unfold Oper.wp
    simp [execOp, ho, resolve, invoke, builtin, hs, hx, hrun, Result.andThen]
    exact h a' c' w' ho2 k2 k3
  | none =>
    obtain rfl := h2 rfl
    have hl2 : l2 = [] := List.eq_nil_of_length_eq_zero hat.1
    subst hl2
    have hrun := run_append_none (P := Try.prog) w B 25 o.type 3 i0 1 c Try.underlying25 hi v l.length _ hown
    obtain ⟨a', c', rfl⟩ := hown.form
    obtain rfl : l.length = N := by simpa using hN
    unfold Oper.wp
    simp [execOp, ho, resolve, invoke, builtin, hs, hx, hrun, Result.andThen]
    exact h a' c' w (by simpa using hown) (World.grownBy.refl _ _) (Or.inl rfl)

theorem IntsAt.take {w : World} {a : Option Addr} {n k : Nat} {l : List Int} (h : IntsAt w a n l) (hk : k ≤ n) : IntsAt w a k (l.take k) :=
  ⟨by have := h.1; simp; omega, fun j hj => by
    obtain ⟨b, off, h1, h2, h3⟩ := h.2 j (by omega)
    refine ⟨b, off, h1, h2, ?_⟩
    rw [h3, List.getElem?_take, if_pos hj]⟩
theorem IntsAt.drop {w : World} {g off n k : Nat} {l : List Int} (h : IntsAt w (some ⟨g, off, none⟩) n l) (hk : k ≤ n) : IntsAt w (some ⟨g, off + k, none⟩) (n - k) (l.drop k) :=
  ⟨by have := h.1; simp; omega, fun j hj => by
    obtain ⟨b, o, h1, h2, h3⟩ := h.2 (k + j) (by omega)
    cases h1
    refine ⟨g, off + k, rfl, h2, ?_⟩
    rw [Nat.add_assoc, h3, List.getElem?_drop]⟩
theorem IntsAt.nil' (w : World) (a : Option Addr) {l : List Int} (h : l.length = 0) : IntsAt w a 0 l := ⟨h, fun k hk => absurd hk (by omega)⟩
theorem IntsAt.drew {w : World} {a : Option Addr} {n : Nat} {l : List Int} (h : IntsAt w a n l) : IntsAt w.drew a n l := h.below ((Below.refl _ _).drew)
theorem OwnI.drew {w : World} {B : Nat} {v : Value} {l : List Int} (h : OwnI w B v l) : OwnI w.drew B v l := World.ownsRow.drew h
theorem IntsAt.single' {w : World} {b : Nat} (h : w.heap.size = b) (x : Int) : IntsAt (w.alloc (.cells #[.int .i64 x] 3)) (some ⟨b, 0, none⟩) 1 [x] := by
  subst h
  exact IntsAt.single w x
theorem OwnI.lit0' {w : World} {b : Nat} (h : w.heap.size = b) : OwnI (w.alloc (.cells #[] 3)) b (.slice (some ⟨b, 0, none⟩) 0 0) [] := by
  subst h
  exact OwnI.lit0 w
theorem IntsAt.alloc {w : World} {a : Option Addr} {n : Nat} {l : List Int} (h : IntsAt w a n l) (o : Obj) : IntsAt (w.alloc o) a n l := h.below ((Below.refl _ _).alloc (Nat.le_refl _) _)

set_option maxHeartbeats 1000000 in
theorem s_l1Put_in (g n c : Nat) (x : Int) (l : List Int) (w : World) (h : IntsAt w (some ⟨g, 0, none⟩) n l) (hn : n ≤ 1000) (ha : Asc l) (hx : x ∈ l) :
    Calls Try.prog 101 #[.slice (some ⟨g, 0, none⟩) n c, .int .i64 x] w fun e w' => e = .returned (.slice (some ⟨g, 0, none⟩) n c) ∧ w = w' := by
  have H := hid h
  have HL := hid h.1
  have HA := hid ha
  have HX := hid hx
  clear h ha hx
  go_enter Try.func101, Try.ntmps101
  go_wp2
  go_loopg [5] n (fun g' i wr => ∃ k : Nat, k ≤ n ∧ g' = n - k ∧ i = .int .i64 k ∧ w = wr ∧ Hid (∀ j, j < k → l[j]?.getD 0 < x))
  case atStart => exact ⟨0, Nat.zero_le _, rfl, rfl, rfl, hid (fun j hj => absurd hj (by omega))⟩
  case round =>
    obtain ⟨k, hk, rfl, rfl, rfl, hh⟩ := hrel
    by_cases hlt : k < n
    · obtain ⟨b, off, e0, hbw, hcell⟩ := H.out.2 k hlt
      cases e0
      rw [Nat.zero_add] at hcell
      by_cases he : l[k]?.getD 0 < x
      · go_wp2
        go_roundg (n - (k + 1))
        case rel =>
          refine ⟨k + 1, by omega, rfl, by go_num, rfl, hid (fun j hj => ?_)⟩
          by_cases e : j = k
          · subst e; exact he
          · exact hh.out j (by omega)
        case measure => omega
      · have hq := (asc_at HA.out HX.out (by have := HL.out; omega) hh.out (fun _ => he)).2
        have h1 : l[k]?.getD 0 ≤ x := by omega
        have h2 : x ≤ l[k]?.getD 0 := by omega
        clear hq
        go_wp2
        go_ret
        exact ⟨rfl, rfl⟩
    · have hq := (asc_at HA.out HX.out (by have := HL.out; omega) hh.out (fun h => absurd h (by have := HL.out; omega))).1
      have := HL.out
      omega

set_option maxRecDepth 100000 in
set_option maxHeartbeats 4000000 in
theorem s_l1Put_new (g n c : Nat) (x : Int) (l : List Int) (w : World) (h : IntsAt w (some ⟨g, 0, none⟩) n l) (hn : n ≤ 1000) (hc : n ≤ c) (h0 : 0 < n) (hx : x ∉ l) :
    Calls Try.prog 101 #[.slice (some ⟨g, 0, none⟩) n c, .int .i64 x] w fun e w' => ∃ a' c', e = .returned (.slice a' (n + 1) c') ∧ OwnI w' w.heap.size (.slice a' (n + 1) c') (ins x l) ∧ Below w.heap.size w w' := by
  have H := hid h
  have HL := hid h.1
  have HX := hid hx
  clear h hx
  go_enter Try.func101, Try.ntmps101
  go_wp2
  go_loopg [5] n (fun g' i wr => ∃ k : Nat, k ≤ n ∧ g' = n - k ∧ i = .int .i64 k ∧ w = wr ∧ Hid (∀ j, j < k → l[j]?.getD 0 < x))
  case atStart => exact ⟨0, Nat.zero_le _, rfl, rfl, rfl, hid (fun j hj => absurd hj (by omega))⟩
  case round =>
    obtain ⟨k, hk, rfl, rfl, rfl, hh⟩ := hrel
    by_cases hlt : k < n
    · obtain ⟨b, off, e0, hbw, hcell⟩ := H.out.2 k hlt
      cases e0
      rw [Nat.zero_add] at hcell
      by_cases he : l[k]?.getD 0 < x
      · go_wp2
        go_roundg (n - (k + 1))
        case rel =>
          refine ⟨k + 1, by omega, rfl, by go_num, rfl, hid (fun j hj => ?_)⟩
          by_cases e : j = k
          · subst e; exact he
          · exact hh.out j (by omega)
        case measure => omega
      · have HQ := hid (show k < l.length → ¬ l[k]?.getD 0 < x from fun _ => he)
        have HD := hid (show ∀ wx, Below w.heap.size w wx → IntsAt wx (some ⟨g, k, none⟩) (n - k) (l.drop k) from fun wx hb => by have := ((H.out.below hb).drop hk); simpa using this)
        have h1 : x < l[k]?.getD 0 := by
          have : l[k]?.getD 0 ≠ x := fun e => HX.out (e ▸ getD_mem' (k := k) (by have := HL.out; omega))
          omega
        have k0 : (0 : Int) ≤ (k : Int) := by omega
        have k1 : (k : Int) ≤ (n : Int) := by omega
        have k2 : (k : Int) ≤ (c : Int) := by omega
        have k3 : ¬ c = k := by omega
        have k4 : ¬ c = 0 := by omega
        clear he
        go_upto_region 6 with fail
        go_region_law (first | (refine step_append_ints (by rfl) _ _ (by rfl) (w.heap.size) _ [] (by rfl) (by first | exact ((OwnI.lit0 _).mono (by simp)).drew | exact (((OwnI.lit0 _).mono (by simp)).alloc _).drew | exact ((OwnI.lit0' (by simp)).mono (by simp)).drew) _ k _ (l.take k) (by rfl) (by exact IntsAt.take (H.out.below (by go_grown)) hk) k (by simp) (by omega) (by simp <;> omega) ?_; intro a4 c4 w4 h4 g4 b4; have hb4 : Below w.heap.size w w4 := Below.grown (by go_grown) g4 (by simp <;> omega) (fun q hq => by cases hq; first | exact Nat.le_refl _ | exact Nat.le_succ _)) | (refine step_append_ints (by rfl) _ _ (by rfl) (w.heap.size) _ ([] ++ l.take k) (by rfl) (by first | exact h4 | exact h4.alloc _) _ 1 _ [x] (by rfl) (by first | exact IntsAt.single _ _ | exact ((IntsAt.single' (by simp) _).drew).kept g4 (fun b off e => by cases e; exact fun h => absurd (Option.some.inj h) (by simp <;> omega)) | exact (((IntsAt.single _ _).alloc _).drew).kept g4 (fun b off e => by cases e; exact fun h => absurd (Option.some.inj h) (by simp <;> omega))) (k + 1) (by have := HL.out; simp; omega) (by omega) (by have := hb4.size; simp; omega) ?_; intro a7 c7 w7 h7 g7 b7; have hb7 : Below w.heap.size w w7 := by first | exact hb4.grown g7 hb4.size (fun q hq => (h4.lt q hq).1) | exact (hb4.alloc hb4.size _).grown g7 (by have := hb4.size; simp; omega) (fun q hq => (h4.lt q hq).1)) | (refine step_append_ints (by rfl) _ _ (by rfl) (w.heap.size) _ (([] ++ l.take k) ++ [x]) (by rfl) h7 _ (n - k) _ (l.drop k) (by rfl) (HD.out w7 hb7) (n + 1) (by have := HL.out; simp; omega) (by omega) (by exact hb7.size) ?_; intro a11 c11 w11 h11 g11 b11; have hb11 : Below w.heap.size w w11 := hb7.grown g11 hb7.size (fun q hq => (h7.lt q hq).1)))
        all_goals
          go_wp2
          go_ret
          refine ⟨_, _, rfl, ?_, hb11⟩
          rw [ins_cut l k (by have := HL.out; omega) hh.out (fun h => by have := HQ.out h; omega)]
          simpa using h11
    · obtain rfl : k = n := by omega
      have HQ := hid (show k < l.length → ¬ l[k]?.getD 0 < x from fun h => absurd h (by have := HL.out; omega))
      have k0 : (0 : Int) ≤ (k : Int) := by omega
      have k2 : (k : Int) ≤ (c : Int) := by omega
      have k4 : ¬ c = 0 := by omega
      have kz : k - k = 0 := by omega
      by_cases k3 : c = k
      · subst k3
        have HD := hid (show ∀ wx, Below w.heap.size w wx → IntsAt wx (some ⟨g, 0, none⟩) 0 (l.drop c) from fun wx hb => by exact IntsAt.nil' _ _ (by have := HL.out; simp; omega))
        go_upto_region 6 with fail
        go_region_law (first | (refine step_append_ints (by rfl) _ _ (by rfl) (w.heap.size) _ [] (by rfl) (by first | exact ((OwnI.lit0 _).mono (by simp)).drew | exact (((OwnI.lit0 _).mono (by simp)).alloc _).drew | exact ((OwnI.lit0' (by simp)).mono (by simp)).drew) _ c _ (l.take c) (by rfl) (by exact IntsAt.take (H.out.below (by go_grown)) hk) c (by simp) (by omega) (by simp <;> omega) ?_; intro a4 c4 w4 h4 g4 b4; have hb4 : Below w.heap.size w w4 := Below.grown (by go_grown) g4 (by simp <;> omega) (fun q hq => by cases hq; first | exact Nat.le_refl _ | exact Nat.le_succ _)) | (refine step_append_ints (by rfl) _ _ (by rfl) (w.heap.size) _ ([] ++ l.take c) (by rfl) (by first | exact h4 | exact h4.alloc _) _ 1 _ [x] (by rfl) (by first | exact IntsAt.single _ _ | exact ((IntsAt.single' (by simp) _).drew).kept g4 (fun b off e => by cases e; exact fun h => absurd (Option.some.inj h) (by simp <;> omega)) | exact (((IntsAt.single _ _).alloc _).drew).kept g4 (fun b off e => by cases e; exact fun h => absurd (Option.some.inj h) (by simp <;> omega))) (c + 1) (by have := HL.out; simp; omega) (by omega) (by have := hb4.size; simp; omega) ?_; intro a7 c7 w7 h7 g7 b7; have hb7 : Below w.heap.size w w7 := by first | exact hb4.grown g7 hb4.size (fun q hq => (h4.lt q hq).1) | exact (hb4.alloc hb4.size _).grown g7 (by have := hb4.size; simp; omega) (fun q hq => (h4.lt q hq).1)) | (refine step_append_ints (by rfl) _ _ (by rfl) (w.heap.size) _ (([] ++ l.take c) ++ [x]) (by rfl) h7 _ (0) _ (l.drop c) (by rfl) (HD.out w7 hb7) (c + 1) (by have := HL.out; simp; omega) (by omega) (by exact hb7.size) ?_; intro a11 c11 w11 h11 g11 b11; have hb11 : Below w.heap.size w w11 := hb7.grown g11 hb7.size (fun q hq => (h7.lt q hq).1)))
        all_goals
          go_wp2
          go_ret
          refine ⟨_, _, rfl, ?_, hb11⟩
          rw [ins_cut l c (by have := HL.out; omega) hh.out (fun h => by have := HQ.out h; omega)]
          simpa using h11
      · have HD := hid (show ∀ wx, Below w.heap.size w wx → IntsAt wx (some ⟨g, k, none⟩) 0 (l.drop k) from fun wx hb => by exact IntsAt.nil' _ _ (by have := HL.out; simp; omega))
        go_upto_region 6 with fail
        go_region_law (first | (refine step_append_ints (by rfl) _ _ (by rfl) (w.heap.size) _ [] (by rfl) (by first | exact ((OwnI.lit0 _).mono (by simp)).drew | exact (((OwnI.lit0 _).mono (by simp)).alloc _).drew | exact ((OwnI.lit0' (by simp)).mono (by simp)).drew) _ k _ (l.take k) (by rfl) (by exact IntsAt.take (H.out.below (by go_grown)) hk) k (by simp) (by omega) (by simp <;> omega) ?_; intro a4 c4 w4 h4 g4 b4; have hb4 : Below w.heap.size w w4 := Below.grown (by go_grown) g4 (by simp <;> omega) (fun q hq => by cases hq; first | exact Nat.le_refl _ | exact Nat.le_succ _)) | (refine step_append_ints (by rfl) _ _ (by rfl) (w.heap.size) _ ([] ++ l.take k) (by rfl) (by first | exact h4 | exact h4.alloc _) _ 1 _ [x] (by rfl) (by first | exact IntsAt.single _ _ | exact ((IntsAt.single' (by simp) _).drew).kept g4 (fun b off e => by cases e; exact fun h => absurd (Option.some.inj h) (by simp <;> omega)) | exact (((IntsAt.single _ _).alloc _).drew).kept g4 (fun b off e => by cases e; exact fun h => absurd (Option.some.inj h) (by simp <;> omega))) (k + 1) (by have := HL.out; simp; omega) (by omega) (by have := hb4.size; simp; omega) ?_; intro a7 c7 w7 h7 g7 b7; have hb7 : Below w.heap.size w w7 := by first | exact hb4.grown g7 hb4.size (fun q hq => (h4.lt q hq).1) | exact (hb4.alloc hb4.size _).grown g7 (by have := hb4.size; simp; omega) (fun q hq => (h4.lt q hq).1)) | (refine step_append_ints (by rfl) _ _ (by rfl) (w.heap.size) _ (([] ++ l.take k) ++ [x]) (by rfl) h7 _ (0) _ (l.drop k) (by rfl) (HD.out w7 hb7) (k + 1) (by have := HL.out; simp; omega) (by omega) (by exact hb7.size) ?_; intro a11 c11 w11 h11 g11 b11; have hb11 : Below w.heap.size w w11 := hb7.grown g11 hb7.size (fun q hq => (h7.lt q hq).1)))
        all_goals
          go_wp2
          go_ret
          refine ⟨_, _, rfl, ?_, hb11⟩
          rw [ins_cut l k (by have := HL.out; omega) hh.out (fun h => by have := HQ.out h; omega)]
          simpa using h11

end Go.Proofs.Ytikjighlnpdgiaa

/-
  Networks, in plain lists: the nodes that the reference's search holds; sublists of a valid network; a pipe left out; the pipes that join parts.
-/
set_option linter.unusedVariables false
set_option linter.unusedSimpArgs false
namespace Go.Proofs.Ytikjighlnpdgiaa
open Go.RowKit

theorem asc_len : ∀ {l : List Int} {lo hi : Int}, Asc l → (∀ x ∈ l, lo ≤ x ∧ x ≤ hi) → lo ≤ hi + 1 → (l.length : Int) ≤ hi - lo + 1
  | [], lo, hi, _, _, h => by simp; omega
  | y :: r, lo, hi, ha, hb, h => by
    unfold Asc at ha
    rw [List.pairwise_cons] at ha
    have h1 := hb y (by simp)
    have := asc_len (l := r) (lo := y + 1) (hi := hi) ha.2 (fun x hx => ⟨by have := ha.1 x hx; omega, (hb x (by simp [hx])).2⟩) (by omega)
    simp only [List.length_cons]
    omega

structure Wet (M : Nat) (l : List Pip) (s : Int) (R : List Int) : Prop where
  asc : Asc R
  has : s ∈ R
  got : ∀ x ∈ R, (1 ≤ x ∧ x ≤ (M : Int)) ∧ 0 ≤ far l 0 s x
theorem Wet.len {M : Nat} {l : List Pip} {s : Int} {R : List Int} (h : Wet M l s R) : R.length ≤ M := by
  have := asc_len (lo := 1) (hi := (M : Int)) h.asc (fun x hx => (h.got x hx).1) (by omega)
  omega
theorem Wet.pos {M : Nat} {l : List Pip} {s : Int} {R : List Int} (h : Wet M l s R) : 0 < R.length := List.length_pos_of_mem h.has
theorem Wet.start {M : Nat} {l : List Pip} {s : Int} (hg : goodNet M l = true) (hs : 1 ≤ s ∧ s ≤ M) : Wet M l s [s] :=
  ⟨by simp [Asc], by simp, fun x hx => by
    obtain rfl : x = s := by simpa using hx
    exact ⟨hs, by rw [far_self hg]; omega⟩⟩
theorem pipe_edge {N : Int} {l : List Pip} {k : Nat} (hg : goodNet N l = true) (hk : k < l.length) : Edge l 0 (pp l k).2.1 (pp l k).2.2.1 ∧ Edge l 0 (pp l k).2.2.1 (pp l k).2.1 := by
  obtain ⟨h1, h2, h3, h4, -⟩ := goodNet_pipe hg hk
  have : Edge l 0 (pp l k).2.1 (pp l k).2.2.1 := ⟨k, hk, by omega, by unfold oth; rw [if_pos rfl], by omega⟩
  exact ⟨this, this.symm hg⟩
theorem Wet.put {M : Nat} {l : List Pip} {s x u : Int} {R : List Int} (hg : goodNet M l = true) (h : Wet M l s R) (hn : x ∉ R) (hu : u ∈ R) (he : Edge l 0 u x) : Wet M l s (ins x R) := by
  refine ⟨asc_ins h.asc hn, mem_ins.2 (.inr h.has), fun y hy => ?_⟩
  rw [mem_ins] at hy
  rcases hy with rfl | hy
  · have hd := far_is (wo := 0) (s := s) hg
    exact ⟨(he.ends hg).2.1, (hd.step u y he (h.got u hu).2).1⟩
  · exact h.got y hy
theorem Wet.done {M : Nat} {l : List Pip} {s : Int} {R : List Int} (hg : goodNet M l = true) (h : Wet M l s R) (hc : ∀ k, k < l.length → ((pp l k).2.1 ∈ R ↔ (pp l k).2.2.1 ∈ R)) : R = reachL M l 0 s :=
  reachL_is hg h.asc h.has h.got hc

theorem pp_mem {l : List Pip} {k : Nat} (hk : k < l.length) : pp l k ∈ l := by
  unfold pp
  rw [List.getElem?_eq_getElem hk]
  exact List.getElem_mem hk
theorem pp_get {l : List Pip} {k : Nat} (hk : k < l.length) : pp l k = l[k] := by
  unfold pp
  rw [List.getElem?_eq_getElem hk]
  rfl
theorem ids_rise {N : Int} {l : List Pip} (hg : goodNet N l = true) : ∀ (j i : Nat), j < l.length → i < j → (pp l i).1 < (pp l j).1
  | 0, _, _, h => by omega
  | j + 1, i, hj, hi => by
    have := (goodNet_get hg).2.2 (j + 1) hj
    simp only [okQ, Bool.and_eq_true, Bool.or_eq_true, decide_eq_true_eq] at this
    have h2 : (pp l j).1 < (pp l (j + 1)).1 := by
      rcases this.2 with h | h
      · omega
      · simpa using h
    by_cases e : i = j
    · subst e; exact h2
    · have := ids_rise hg j i (by omega) (by omega)
      omega
theorem goodNet_iff {N : Int} {l : List Pip} : goodNet N l = true ↔ (1 ≤ N ∧ N ≤ 8) ∧ l.length ≤ 10 ∧ (∀ p ∈ l, okPipe N p = true) ∧ l.Pairwise (fun p q => p.1 < q.1) := by
  constructor
  · intro h
    obtain ⟨h1, h2, h3⟩ := goodNet_get h
    refine ⟨h1, h2, fun p hp => ?_, ?_⟩
    · obtain ⟨k, hk, rfl⟩ := List.mem_iff_getElem.1 hp
      have := h3 k hk
      simp only [okQ, Bool.and_eq_true] at this
      rw [pp_get hk] at this
      exact this.1
    · rw [List.pairwise_iff_getElem]
      intro i j hi hj hij
      have := ids_rise h j i hj hij
      rwa [pp_get hi, pp_get hj] at this
  · rintro ⟨h1, h2, h3, h4⟩
    refine goodNet_all (inR_iff.2 h1) h2 (fun k hk => ?_)
    simp only [okQ, Bool.and_eq_true, Bool.or_eq_true, decide_eq_true_eq]
    refine ⟨h3 _ (pp_mem hk), ?_⟩
    by_cases e : k = 0
    · exact .inl e
    · right
      rw [List.pairwise_iff_getElem] at h4
      rw [pp_get hk, pp_get (show k - 1 < l.length by omega)]
      exact h4 (k - 1) k (by omega) hk (by omega)
theorem goodNet_sub {N : Int} {l m : List Pip} (hs : m.Sublist l) (h : goodNet N l = true) : goodNet N m = true := by
  rw [goodNet_iff] at h ⊢
  exact ⟨h.1, Nat.le_trans hs.length_le h.2.1, fun p hp => h.2.2.1 p (hs.subset hp), List.Pairwise.sublist hs h.2.2.2⟩
theorem edge_mem {l : List Pip} {wo u v : Int} : Edge l wo u v ↔ ∃ p ∈ l, p.1 ≠ wo ∧ oth p u = v ∧ 0 < v := by
  constructor
  · rintro ⟨k, hk, h⟩
    exact ⟨pp l k, pp_mem hk, h⟩
  · rintro ⟨p, hp, h⟩
    obtain ⟨k, hk, rfl⟩ := List.mem_iff_getElem.1 hp
    exact ⟨k, hk, by rw [pp_get hk]; exact h⟩
theorem mem_without {N : Int} {l : List Pip} {i : Nat} (hg : goodNet N l = true) (hi : i < l.length) {p : Pip} : p ∈ l.eraseIdx i ↔ p ∈ l ∧ p.1 ≠ (pp l i).1 := by
  rw [List.mem_eraseIdx_iff_getElem]
  constructor
  · rintro ⟨j, hj, hne, rfl⟩
    refine ⟨List.getElem_mem hj, ?_⟩
    have := pp_get hj
    rw [← this]
    by_cases h : j < i
    · have := ids_rise hg i j hi h
      omega
    · have := ids_rise hg j i hj (by omega)
      omega
  · rintro ⟨hp, hne⟩
    obtain ⟨j, hj, rfl⟩ := List.mem_iff_getElem.1 hp
    refine ⟨j, hj, fun e => ?_, rfl⟩
    subst e
    rw [pp_get hj] at hne
    exact hne rfl
/-- Without a pipe: in the list that leaves it out the ways are those that leave its Id out. -/
theorem far_without {N : Int} {l : List Pip} {i : Nat} (hg : goodNet N l = true) (hi : i < l.length) (s : Int) : far (l.eraseIdx i) 0 s = far l (pp l i).1 s := by
  refine far_congr (fun u v => ?_)
  rw [edge_mem, edge_mem]
  constructor
  · rintro ⟨p, hp, -, h⟩
    obtain ⟨h1, h2⟩ := (mem_without hg hi).1 hp
    exact ⟨p, h1, h2, h⟩
  · rintro ⟨p, hp, h2, h⟩
    refine ⟨p, (mem_without hg hi).2 ⟨hp, h2⟩, ?_, h⟩
    have := okPipe_iff.1 ((goodNet_iff.1 hg).2.2.1 p hp)
    omega
theorem reach_without {N : Int} {l : List Pip} {i : Nat} (hg : goodNet N l = true) (hi : i < l.length) (s : Int) : reachL N (l.eraseIdx i) 0 s = reachL N l (pp l i).1 s := by
  unfold reachL distL
  rw [far_without hg hi]

/-- The pipes, of the first k, that join nodes that are not connected yet. -/
noncomputable def span (l : List Pip) : Nat → List Pip
  | 0 => []
  | k + 1 => open Classical in if 0 ≤ far (span l k) 0 (pp l k).2.1 (pp l k).2.2.1 then span l k else span l k ++ [pp l k]
theorem span_yes {l : List Pip} {k : Nat} (h : 0 ≤ far (span l k) 0 (pp l k).2.1 (pp l k).2.2.1) : span l (k + 1) = span l k := by
  conv => lhs; unfold span
  rw [if_pos h]
theorem span_no {l : List Pip} {k : Nat} (h : ¬ 0 ≤ far (span l k) 0 (pp l k).2.1 (pp l k).2.2.1) : span l (k + 1) = span l k ++ [pp l k] := by
  conv => lhs; unfold span
  rw [if_neg h]
theorem span_sub (l : List Pip) : ∀ k, k ≤ l.length → (span l k).Sublist (l.take k)
  | 0, _ => by simp [span]
  | k + 1, hk => by
    have ih := span_sub l k (by omega)
    have e : l.take (k + 1) = l.take k ++ [pp l k] := by
      rw [List.take_add_one, List.getElem?_eq_getElem (by omega), pp_get (by omega)]
      rfl
    rw [e]
    by_cases h : 0 ≤ far (span l k) 0 (pp l k).2.1 (pp l k).2.2.1
    · rw [span_yes h]
      exact ih.trans (List.sublist_append_left _ _)
    · rw [span_no h]
      exact ih.append (List.Sublist.refl _)
theorem span_good {N : Int} {l : List Pip} (hg : goodNet N l = true) {k : Nat} (hk : k ≤ l.length) : goodNet N (span l k) = true :=
  goodNet_sub ((span_sub l k hk).trans (List.take_sublist _ _)) hg
theorem span_len (l : List Pip) {k : Nat} (hk : k ≤ l.length) : (span l k).length ≤ k := by
  have := (span_sub l k hk).length_le
  simp at this
  omega
theorem to_reached {N : Int} {l : List Pip} {wo s x : Int} (hx : 1 ≤ x ∧ x ≤ N) : x ∈ reachL N l wo s ↔ 0 ≤ far l wo s x := by
  rw [mem_reachL]
  exact ⟨fun h => h.2, fun h => ⟨hx, h⟩⟩

end Go.Proofs.Ytikjighlnpdgiaa

