/-
  Texts of this claim, joined: NetQ, Mem, Queue, Ints.
-/
import Derived.ArgAppend
import Derived.Test.YtikjighlnpdgiaaRi1
/-
  Networks: the search that labels nodes, round by round, in plain lists.
-/
set_option linter.unusedVariables false
set_option linter.unusedSimpArgs false
namespace Go.Proofs.Ytikjighlnpdgiaa
open Go.RowKit

/-- A node's label. -/
def lab (f : List Int) (v : Int) : Int := f[v.toNat]?.getD 0
theorem lab_set {f : List Int} {N x v y : Int} (hl : f.length = N.toNat + 1) (hx : 0 ≤ x ∧ x ≤ N) (hv : 0 ≤ v) : lab (f.set x.toNat y) v = if v = x then y else lab f v := by
  unfold lab
  by_cases e : v = x
  · subst e
    rw [List.getElem?_set_self (by omega), if_pos rfl]
    rfl
  · rw [List.getElem?_set_ne (by omega), if_neg e]
/-- The first one that waits. -/
def hd (q : List Int) : Int := q[0]?.getD 0

/-- While the first waiting node is looked at: some pipes have been gone through. -/
structure Mid (N : Int) (l : List Pip) (wo s : Int) (f q : List Int) (k : Nat) : Prop where
  len : f.length = N.toNat + 1
  zero : lab f 0 = -1
  low : ∀ v, 1 ≤ v → v ≤ N → -1 ≤ lab f v
  self : lab f s = 0
  only : ∀ v, 1 ≤ v → v ≤ N → lab f v = 0 → v = s
  back : ∀ v, 1 ≤ v → v ≤ N → 0 < lab f v → ∃ u, Edge l wo u v ∧ lab f u = lab f v - 1
  ne : 0 < q.length
  qin : ∀ x ∈ q, (1 ≤ x ∧ x ≤ N) ∧ 0 ≤ lab f x
  sorted : ∀ i j, i ≤ j → j < q.length → lab f (q[i]?.getD 0) ≤ lab f (q[j]?.getD 0)
  top : ∀ v, 1 ≤ v → v ≤ N → lab f v ≤ lab f (hd q) + 1
  done : ∀ v, 1 ≤ v → v ≤ N → 0 ≤ lab f v → v ∉ q → (∀ u, Edge l wo v u → 0 ≤ lab f u ∧ lab f u ≤ lab f v + 1) ∧ lab f v ≤ lab f (hd q)
  part : ∀ j, j < k → (pp l j).1 ≠ wo → 0 < oth (pp l j) (hd q) → 0 ≤ lab f (oth (pp l j) (hd q))

theorem Mid.head {N : Int} {l : List Pip} {wo s : Int} {f q : List Int} {k : Nat} (h : Mid N l wo s f q k) : hd q ∈ q ∧ (1 ≤ hd q ∧ hd q ≤ N) ∧ 0 ≤ lab f (hd q) := by
  have hm : hd q ∈ q := by
    unfold hd
    rw [List.getElem?_eq_getElem h.ne]
    exact List.getElem_mem h.ne
  exact ⟨hm, h.qin _ hm⟩
theorem Mid.no {N : Int} {l : List Pip} {wo s : Int} {f q : List Int} {k : Nat} (h : Mid N l wo s f q k) (hn : (pp l k).1 ≠ wo → 0 < oth (pp l k) (hd q) → 0 ≤ lab f (oth (pp l k) (hd q))) : Mid N l wo s f q (k + 1) :=
  ⟨h.len, h.zero, h.low, h.self, h.only, h.back, h.ne, h.qin, h.sorted, h.top, h.done, fun j hj => by
    by_cases e : j = k
    · subst e; exact hn
    · exact h.part j (by omega)⟩
theorem hd_app (q : List Int) (x : Int) (h : 0 < q.length) : hd (q ++ [x]) = hd q := by
  unfold hd
  rw [List.getElem?_append_left h]
theorem Mid.yes {N : Int} {l : List Pip} {wo s : Int} {f q : List Int} {k : Nat} {tv : Int} (hg : goodNet N l = true) (h : Mid N l wo s f q k) (hk : k < l.length) (hw : (pp l k).1 ≠ wo) (ht : oth (pp l k) (hd q) = tv) (hp : 0 < tv) (hl : lab f tv < 0) :
    Mid N l wo s (f.set tv.toNat (lab f (hd q) + 1)) (q ++ [tv]) (k + 1) := by
  obtain ⟨hm, hh, hh0⟩ := h.head
  have he : Edge l wo (hd q) tv := ⟨k, hk, hw, ht, hp⟩
  obtain ⟨-, ⟨t1, t2⟩, hne⟩ := he.ends hg
  have L : ∀ v, 0 ≤ v → lab (f.set tv.toNat (lab f (hd q) + 1)) v = if v = tv then lab f (hd q) + 1 else lab f v := fun v hv => lab_set h.len ⟨by omega, t2⟩ hv
  have Lh : lab (f.set tv.toNat (lab f (hd q) + 1)) (hd q) = lab f (hd q) := by rw [L _ (by omega), if_neg hne]
  have hqt : ∀ x ∈ q, x ≠ tv := fun x hx e => by have := (h.qin x hx).2; rw [e] at this; omega
  have hst : s ≠ tv := fun e => by have := h.self; rw [e] at this; omega
  have hs0 : 0 ≤ s ∨ s < 0 := by omega
  have Lq : ∀ i, i < q.length → lab (f.set tv.toNat (lab f (hd q) + 1)) (q[i]?.getD 0) = lab f (q[i]?.getD 0) := fun i hi => by
    have hmem : q[i]?.getD 0 ∈ q := by rw [List.getElem?_eq_getElem hi]; exact List.getElem_mem hi
    rw [L _ (by have := (h.qin _ hmem).1; omega), if_neg (hqt _ hmem)]
  refine ⟨by simp [h.len], ?_, ?_, ?_, ?_, ?_, by simp, ?_, ?_, ?_, ?_, ?_⟩
  · rw [L 0 (by omega), if_neg (by omega)]; exact h.zero
  · intro v h1 h2
    rw [L v (by omega)]
    split
    · omega
    · exact h.low v h1 h2
  · unfold lab at *
    rw [List.getElem?_set_ne]
    · exact h.self
    · intro e
      have h0 := h.self
      have hl' := hl
      simp only [lab] at h0
      rw [← e] at h0
      omega
  · intro v h1 h2 h3
    rw [L v (by omega)] at h3
    split at h3
    · omega
    · exact h.only v h1 h2 h3
  · intro v h1 h2 h3
    rw [L v (by omega)] at h3 ⊢
    split at h3
    · rename_i e
      subst e
      rw [if_pos rfl]
      exact ⟨hd q, he, by rw [Lh]; omega⟩
    · rename_i e
      rw [if_neg e]
      obtain ⟨u, hu, hu2⟩ := h.back v h1 h2 h3
      obtain ⟨⟨u1, u2⟩, -, -⟩ := hu.ends hg
      refine ⟨u, hu, ?_⟩
      rw [L u (by omega)]
      split
      · rename_i e2
        rw [e2] at hu2
        omega
      · exact hu2
  · intro x hx
    rw [List.mem_append, List.mem_singleton] at hx
    rcases hx with hx | rfl
    · refine ⟨(h.qin x hx).1, ?_⟩
      rw [L x (by have := (h.qin x hx).1; omega), if_neg (hqt x hx)]
      exact (h.qin x hx).2
    · refine ⟨⟨t1, t2⟩, ?_⟩
      rw [L _ (by omega), if_pos rfl]
      omega
  · intro i j hij hj
    rw [List.length_append] at hj
    simp only [List.length_singleton] at hj
    by_cases hjq : j < q.length
    · rw [List.getElem?_append_left hjq, List.getElem?_append_left (by omega), Lq i (by omega), Lq j hjq]
      exact h.sorted i j hij hjq
    · obtain rfl : j = q.length := by omega
      have ej : (q ++ [tv])[q.length]?.getD 0 = tv := by simp
      rw [ej, L tv (by omega), if_pos rfl]
      by_cases hiq : i < q.length
      · rw [List.getElem?_append_left hiq, Lq i hiq]
        have hmem : q[i]?.getD 0 ∈ q := by rw [List.getElem?_eq_getElem hiq]; exact List.getElem_mem hiq
        have := (h.qin _ hmem).1
        exact h.top _ this.1 this.2
      · obtain rfl : i = q.length := by omega
        rw [ej, L tv (by omega), if_pos rfl]
        exact Int.le_refl _
  · intro v h1 h2
    rw [hd_app _ _ h.ne, Lh, L v (by omega)]
    split
    · omega
    · exact h.top v h1 h2
  · intro v h1 h2 h3 h4
    rw [List.mem_append, List.mem_singleton, not_or] at h4
    rw [L v (by omega), if_neg h4.2] at h3
    obtain ⟨a, b⟩ := h.done v h1 h2 h3 h4.1
    rw [hd_app _ _ h.ne, Lh, L v (by omega), if_neg h4.2]
    refine ⟨fun u hu => ?_, b⟩
    obtain ⟨-, ⟨u1, u2⟩, -⟩ := hu.ends hg
    have := a u hu
    rw [L u (by omega)]
    split
    · rename_i e; rw [e] at this; omega
    · exact this
  · intro j hj hwj hoj
    rw [hd_app _ _ h.ne] at hoj ⊢
    rw [L _ (by omega)]
    split
    · omega
    · rename_i e
      by_cases ejk : j = k
      · subst ejk; exact absurd ht e
      · exact h.part j (by omega) hwj hoj

/-- All pipes have been gone through: the first node is done. -/
theorem Mid.step {N : Int} {l : List Pip} {wo s : Int} {f q : List Int} (hg : goodNet N l = true) (h : Mid N l wo s f q l.length) (u : Int) (hu : Edge l wo (hd q) u) : 0 ≤ lab f u ∧ lab f u ≤ lab f (hd q) + 1 := by
  obtain ⟨-, ⟨u1, u2⟩, -⟩ := hu.ends hg
  have h2 := h.top u u1 u2
  obtain ⟨k, hk, hw, ho, hp⟩ := hu
  have := h.part k hk hw (by omega)
  rw [ho] at this
  exact ⟨this, h2⟩
theorem Mid.next {N : Int} {l : List Pip} {wo s x : Int} {f q : List Int} (hg : goodNet N l = true) (h : Mid N l wo s f (x :: q) l.length) (hq : 0 < q.length) : Mid N l wo s f q 0 := by
  have hx : hd (x :: q) = x := rfl
  have hmem : hd q ∈ q := by unfold hd; rw [List.getElem?_eq_getElem hq]; exact List.getElem_mem hq
  have hle : lab f x ≤ lab f (hd q) := by
    have := h.sorted 0 1 (by omega) (by simp; omega)
    simpa [hd] using this
  refine ⟨h.len, h.zero, h.low, h.self, h.only, h.back, hq, fun y hy => h.qin y (by simp [hy]), ?_, ?_, ?_, fun j hj => absurd hj (by omega)⟩
  · intro i j hij hj
    have := h.sorted (i + 1) (j + 1) (by omega) (by simp; omega)
    simpa using this
  · intro v h1 h2
    have := h.top v h1 h2
    rw [hx] at this
    omega
  · intro v h1 h2 h3 h4
    by_cases e : v = x
    · subst e
      refine ⟨fun u hu => ?_, hle⟩
      have := h.step hg u (by rw [hx]; exact hu)
      rwa [hx] at this
    · obtain ⟨a, b⟩ := h.done v h1 h2 h3 (by simp [e, h4])
      rw [hx] at b
      exact ⟨a, by omega⟩
theorem Mid.last {N : Int} {l : List Pip} {wo s x : Int} {f : List Int} (hg : goodNet N l = true) (h : Mid N l wo s f [x] l.length) : IsDist N l wo s (lab f) := by
  have hx : hd [x] = x := rfl
  refine ⟨h.low, h.self, h.only, h.back, fun u v he h0 => ?_⟩
  obtain ⟨⟨u1, u2⟩, -, -⟩ := he.ends hg
  by_cases e : u = x
  · subst e
    have := h.step hg v (by rw [hx]; exact he)
    rwa [hx] at this
  · exact (h.done u u1 u2 h0 (by simp [e])).1 v he
theorem Mid.start {N : Int} {l : List Pip} {wo s : Int} {f : List Int} (hs : 1 ≤ s ∧ s ≤ N) (hl : f.length = N.toNat + 1) (hf : ∀ v, 0 ≤ v → v ≤ N → v ≠ s → lab f v = -1) (h0 : lab f s = 0) : Mid N l wo s f [s] 0 := by
  have hx : hd [s] = s := rfl
  refine ⟨hl, hf 0 (by omega) (by omega) (by omega), ?_, h0, ?_, ?_, by simp, ?_, ?_, ?_, ?_, fun j hj => absurd hj (by omega)⟩
  · intro v h1 h2
    by_cases e : v = s
    · subst e; omega
    · rw [hf v (by omega) h2 e]; omega
  · intro v h1 h2 h3
    by_cases e : v = s
    · exact e
    · rw [hf v (by omega) h2 e] at h3; omega
  · intro v h1 h2 h3
    by_cases e : v = s
    · subst e; omega
    · rw [hf v (by omega) h2 e] at h3; omega
  · intro x hx
    rw [List.mem_singleton] at hx
    subst hx
    exact ⟨hs, by omega⟩
  · intro i j hij hj
    simp only [List.length_singleton] at hj
    obtain rfl : j = 0 := by omega
    obtain rfl : i = 0 := by omega
    exact Int.le_refl _
  · intro v h1 h2
    rw [hx, h0]
    by_cases e : v = s
    · subst e; omega
    · rw [hf v (by omega) h2 e]; omega
  · intro v h1 h2 h3 h4
    by_cases e : v = s
    · subst e; simp at h4
    · rw [hf v (by omega) h2 e] at h3; omega

end Go.Proofs.Ytikjighlnpdgiaa

/-
  A slice of a call's own stays as it is where another block is written.
-/
set_option linter.unusedVariables false
namespace Go.Proofs.Ytikjighlnpdgiaa
open Go.RowKit

theorem grown_setCell (w : World) (b o : Nat) (u : Value) : w.grownBy (w.setCell ⟨b, o, none⟩ u) (some b) :=
  ⟨rfl, rfl, rfl, by simp, fun k _ hk => Below.heap_setCell _ _ _ _ (fun e => hk (by rw [e]))⟩
theorem OwnI.far {w : World} {B b o : Nat} {v u : Value} {l : List Int} (h : OwnI w B v l) (hb : b < B) : OwnI (w.setCell ⟨b, o, none⟩ u) B v l :=
  h.kept (grown_setCell w b o u) (by
    cases hv : v.ownBlock with
    | none => exact .inl rfl
    | some k =>
      refine .inr fun e => ?_
      have := (h.lt k hv).1
      cases e
      omega)
theorem sum_fit {l : List Int} {B : Int} (hB : 0 ≤ B) (h : ∀ x ∈ l, 0 ≤ x ∧ x ≤ B) : 0 ≤ l.sum ∧ l.sum ≤ B * (l.length : Int) := by
  induction l with
  | nil => simp
  | cons x r ih =>
    have h1 := h x (by simp)
    have h2 := ih fun y hy => h y (by simp [hy])
    simp only [List.sum_cons, List.length_cons]
    have e : B * ((r.length + 1 : Nat) : Int) = B * (r.length : Int) + B := by rw [Int.natCast_add, Int.mul_add]; simp
    omega
theorem getD_mem' {l : List Int} {k : Nat} (hk : k < l.length) : l[k]?.getD 0 ∈ l := by
  rw [List.getElem?_eq_getElem hk]
  exact List.getElem_mem hk

theorem mid_new (W : World) (x y : Obj) (g : Nat) (hg : g = W.heap.size) : ((W.alloc x).alloc y).heap[g]? = some x := by
  subst hg
  rw [Below.heap_alloc _ _ _ (by simp)]
  exact heap_alloc_new _ _
theorem other_cell {W : World} {b o g : Nat} {u : Value} {x : Obj} (h : W.heap[g]? = some x) (hne : g ≠ b) : (W.setCell ⟨b, o, none⟩ u).heap[g]? = some x := (Below.heap_setCell _ _ _ _ hne).trans h

end Go.Proofs.Ytikjighlnpdgiaa

/-
  A queue: a slice of whole numbers of the call's own, that begins anywhere in its block.
-/
set_option linter.unusedVariables false
set_option linter.unusedSimpArgs false
namespace Go.Proofs.Ytikjighlnpdgiaa
open Go.RowKit

def QOwn (w : World) (B : Nat) (a : Option Addr) (n c : Nat) (l : List Int) : Prop :=
  ∃ g off cur, a = some ⟨g, off, none⟩ ∧ B ≤ g ∧ w.heap[g]? = some (.cells cur 3 (0, 0)) ∧ l.length = n ∧ n ≤ c ∧ off + c ≤ cur.size ∧ ∀ j, j < n → cur[off + j]? = some (.int .i64 (l[j]?.getD 0))

theorem QOwn.lt {w : World} {B n c : Nat} {a : Option Addr} {l : List Int} (h : QOwn w B a n c l) : ∀ k, Value.ownBlock (.slice a n c) = some k → B ≤ k ∧ k < w.heap.size := by
  obtain ⟨g, off, cur, rfl, hB, hg, -⟩ := h
  intro k hk
  simp only [Value.ownBlock, Option.some.injEq] at hk
  subst hk
  exact ⟨hB, (Array.getElem?_eq_some_iff.1 hg).1⟩
theorem QOwn.cell {w : World} {B n c k : Nat} {a : Option Addr} {l : List Int} (h : QOwn w B a n c l) (hk : k < n) : ∃ g off, a = some ⟨g, off, none⟩ ∧ g < w.heap.size ∧ w.cell? ⟨g, off + k, none⟩ = some (.int .i64 (l[k]?.getD 0)) := by
  obtain ⟨g, off, cur, rfl, hB, hg, hl, hc, hs, hj⟩ := h
  refine ⟨g, off, rfl, (Array.getElem?_eq_some_iff.1 hg).1, ?_⟩
  rw [cell_of_row w _ _ _ _ (0, 0) hg]
  exact hj k hk
theorem QOwn.below {w w' : World} {B n c : Nat} {a : Option Addr} {l : List Int} (h : QOwn w B a n c l) (hb : Below w.heap.size w w') : QOwn w' B a n c l := by
  obtain ⟨g, off, cur, rfl, hB, hg, rest⟩ := h
  exact ⟨g, off, cur, rfl, hB, (hb.block _ (Array.getElem?_eq_some_iff.1 hg).1).trans hg, rest⟩
theorem QOwn.kept {w w' : World} {B n c : Nat} {a : Option Addr} {l : List Int} {row : Option Nat} (h : QOwn w B a n c l) (hg : w.grownBy w' row) (hne : Value.ownBlock (.slice a n c) ≠ row) : QOwn w' B a n c l := by
  obtain ⟨g, off, cur, rfl, hB, hc, rest⟩ := h
  exact ⟨g, off, cur, rfl, hB, (hg.block _ (Array.getElem?_eq_some_iff.1 hc).1 (by simpa [Value.ownBlock] using hne)).trans hc, rest⟩
/-- The first one is taken out. -/
theorem QOwn.tail {w : World} {B n c : Nat} {g off : Nat} {x : Int} {l : List Int} (h : QOwn w B (some ⟨g, off, none⟩) (n + 1) c (x :: l)) : QOwn w B (some ⟨g, off + 1, none⟩) n (c - 1) l := by
  obtain ⟨g', off', cur, e, hB, hg, hl, hc, hs, hj⟩ := h
  simp only [Option.some.injEq, Addr.mk.injEq] at e
  obtain ⟨rfl, rfl, -⟩ := e
  refine ⟨g, off + 1, cur, rfl, hB, hg, by simpa using hl, by omega, by omega, fun j hj2 => ?_⟩
  have := hj (j + 1) (by omega)
  rw [show off + 1 + j = off + (j + 1) by omega, this]
  simp
/-- A row of the call's own is a queue. -/
theorem QOwn.of_own {w : World} {B n c : Nat} {a : Option Addr} {l : List Int} (h : OwnI w B (.slice a n c) l) (hn : 0 < n) : QOwn w B a n c l := by
  have hl := h.len
  unfold OwnI at h
  rcases h.2 with ⟨h1, h0⟩ | ⟨g, cap, cur, h1, hB, hg, hnc, hm, hs, ht⟩
  · simp only [Value.slice.injEq] at h1
    omega
  · simp only [Value.slice.injEq] at h1
    obtain ⟨rfl, -, rfl⟩ := h1
    refine ⟨g, 0, cur, rfl, hB, hg, hl, by omega, by omega, fun j hj => ?_⟩
    have e := congrArg (fun z => z[j]?) ht
    simp only [List.getElem?_take, Nat.mul_one, hl] at e
    rw [if_pos hj] at e
    rw [Nat.zero_add, ← Array.getElem?_toList, e]
    simp [show j < l.length by omega]


theorem wp_append_queue {ops : Array Oper} {rest : List Oper} {o : Oper} {a : Act} {Q : Exit → Act → World → Prop} (w : World) (hgd : o.guard = none) (so x : Operand)
    (ho : o.op = .call { callee := .builtin .append, args := #[so, x], argTypes := #[25, 25] })
    (B : Nat) (qa : Option Addr) (n c : Nat) (l : List Int) (hs : a.eval so = .slice qa n c) (hown : QOwn w B qa n c l)
    (ad : Addr) (c2 : Nat) (v : Int) (hx : a.eval x = .slice (some ad) 1 c2) (hcell : w.cell? ad = some (.int .i64 v)) (hn : n ≤ 1000000) (hB : B ≤ w.heap.size)
    (h : ∀ a' c' w', QOwn w' B a' (n + 1) c' (l ++ [v]) → w.grownBy w' (Value.ownBlock (.slice qa n c)) → (Value.ownBlock (.slice a' (n + 1) c') = Value.ownBlock (.slice qa n c) ∨ ∃ k, Value.ownBlock (.slice a' (n + 1) c') = some k ∧ w.heap.size ≤ k) → wpList Try.prog ops Q rest (a.put o.dst (.slice a' (n + 1) c')) w') : wpList Try.prog ops Q (o :: rest) a w := by
  obtain ⟨i, hi, hz, hsize, hby⟩ := info_parts Try.infoInt
  obtain ⟨g, off, cur, rfl, hBg, hg, hl, hc, hsz, hj⟩ := hown
  have hnews : ∀ j u, ([Value.int .i64 v] : List Value)[j]? = some u → w.cell? (ad.add j) = some u := by
    intro j u hu
    cases j with
    | zero => simp at hu; subst hu; simpa [Addr.add] using hcell
    | succ j => simp at hu
  refine wpList_plain hgd fun K hK => ?_
  by_cases hroom : n + 1 ≤ c
  · have hrun := run_append_room_cells (P := Try.prog) w 25 o.type 3 i Try.underlying25 hi g off n c ad 1 c2 [.int .i64 v] (by rw [hsize]; rfl) hnews (by simp [Value.oneCell']) hroom
      (by
        intro j hj2
        simp at hj2
        subst hj2
        rw [cell_of_row w _ _ _ _ (0, 0) hg, hsize, Array.getElem?_eq_getElem (by omega)]
        rfl)
      (by intro j hj2; exact frozen_of_row w _ _ _ _ hg)
    rw [hsize, Nat.mul_one] at hrun
    unfold Oper.wp
    simp [execOp, ho, resolve, invoke, builtin, hs, hx, hrun, Result.andThen]
    refine hK _ _ (h (some ⟨g, off, none⟩) c (w.setCell ⟨g, off + n, none⟩ (.int .i64 v)) ⟨g, off, _, rfl, hBg, heap_setCell_same w _ (off + n) _ _ (.int .i64 v) hg, by simp [hl], by omega, by simpa using hsz, ?_⟩ (grown_setCell w g (off + n) _) (.inl rfl))
    intro j hj2
    by_cases e : j = n
    · subst e
      have e3 : (l ++ [v])[j]?.getD 0 = v := by rw [List.getElem?_append_right (by omega)]; simp [hl]
      rw [e3]
      simp [Array.getElem?_setIfInBounds, show off + j < cur.size by omega]
    · rw [Array.getElem?_setIfInBounds_ne (by omega), hj j (by omega), List.getElem?_append_left (by omega)]
  · obtain ⟨v', w', hrun, r1, r2⟩ := run_append_arg_grows (P := Try.prog) w 25 o.type 3 i (.int .i64 0) 1 8 Try.underlying25 hi hz hsize hby rfl (by decide) ⟨g, off, none⟩ n c (l.map (Value.int .i64)) (by simp [hl])
      (by
        intro j u hu
        rw [addr_add, cell_of_row w _ _ _ _ (0, 0) hg]
        by_cases hjn : j < n
        · rw [hj j hjn, ← hu]; simp [show j < l.length by omega]
        · rw [List.getElem?_eq_none (by simp; omega)] at hu; cases hu)
      ad 1 c2 [.int .i64 v] rfl hnews (by omega) (by unfold maxLen; omega) (by omega)
    have ho2 : OwnI w' w.heap.size v' (l ++ [v]) := by
      unfold OwnI
      rw [List.map_append, List.length_append, hl]
      exact r1
    obtain ⟨a', c', rfl⟩ := ho2.form
    have e : (l ++ [v]).length = n + 1 := by simp [hl]
    rw [e] at ho2 hrun
    obtain ⟨g2, rfl, hg2, -⟩ : ∃ g2, a' = some ⟨g2, 0, none⟩ ∧ w.heap.size ≤ g2 ∧ True := by
      have hlt := ho2.lt
      unfold OwnI at ho2
      rcases ho2.2 with ⟨h1, h0⟩ | ⟨g, cap, cur, h1, hB, hg, hnc, hm, hs, ht⟩
      · simp only [Value.slice.injEq] at h1; omega
      · simp only [Value.slice.injEq] at h1
        obtain ⟨rfl, -, rfl⟩ := h1
        exact ⟨g, rfl, hB, trivial⟩
    unfold Oper.wp
    simp [execOp, ho, resolve, invoke, builtin, hs, hx, hrun, Result.andThen]
    exact hK _ _ (h _ _ _ (QOwn.of_own (ho2.mono hB) (by omega)) ⟨r2.os, r2.tape, r2.output, r2.size, fun k hk _ => r2.block k hk (by simp)⟩ (.inr ⟨g2, rfl, hg2⟩))

end Go.Proofs.Ytikjighlnpdgiaa

/-
  What the small functions on slices of numbers do: sums, comparisons, copies, marks.
-/
set_option linter.unusedVariables false
namespace Go.Proofs.Ytikjighlnpdgiaa
open Go.RowKit

set_option maxHeartbeats 400000 in
theorem i_sumInts (a : Option Addr) (n c : Nat) (l : List Int) (w : World) (h : IntsAt w a n l) (hn : n ≤ 4194304) (hv : ∀ x ∈ l, -1000000000000 ≤ x ∧ x ≤ 1000000000000) :
    Calls Try.prog 43 #[.slice a n c] w fun e w' => e = .returned (.int .i64 l.sum) ∧ w = w' := by
  obtain ⟨hl, hc⟩ := h
  have HL := hid hl
  clear hl
  go_enter Try.func43, Try.ntmps43
  go_wp2
  go_loop [3, 8] (fun s i => ∃ k : Nat, k ≤ n ∧ i = .int .i64 k ∧ s = .int .i64 ((l.take k).sum)) (fun _ i => n - (intOf i).toNat)
  case atStart => exact ⟨0, Nat.zero_le _, rfl, rfl⟩
  case round =>
    obtain ⟨k, hk, rfl, rfl⟩ := hrel
    by_cases hlt : k < n
    · obtain ⟨b, off, rfl, hbw, hcell⟩ := hc k hlt
      clear hc
      have hb1 := sum_take_bound l hv k (by have := HL.out; omega)
      have hb2 := sum_take_bound l hv (k + 1) (by have := HL.out; omega)
      rw [sum_take_succ l k (by have := HL.out; omega)] at hb2
      have hs := hid (sum_take_succ l k (by have := HL.out; omega))
      go_wp2
      go_round
      case rel => exact ⟨k + 1, by omega, by go_num, by rw [hs.out]⟩
      case measure => simp [intOf]; omega
    · go_wp2
      go_ret
      exact ⟨ret_int (by rw [List.take_of_length_le (by have := HL.out; omega)]), rfl⟩
set_option maxHeartbeats 400000 in
theorem s_l8Sum (a : Option Addr) (n c : Nat) (l : List Int) (w : World) (h : IntsAt w a n l) (hn : n ≤ 4194304) (hv : ∀ x ∈ l, -1000000000000 ≤ x ∧ x ≤ 1000000000000) :
    Calls Try.prog 33 #[.slice a n c] w fun e w' => e = .returned (.int .i64 l.sum) ∧ w = w' := by
  obtain ⟨hl, hc⟩ := h
  have HL := hid hl
  clear hl
  go_enter Try.func33, Try.ntmps33
  go_wp2
  go_loop [3, 4] (fun s i => ∃ k : Nat, k ≤ n ∧ i = .int .i64 k ∧ s = .int .i64 ((l.take k).sum)) (fun _ i => n - (intOf i).toNat)
  case atStart => exact ⟨0, Nat.zero_le _, rfl, rfl⟩
  case round =>
    obtain ⟨k, hk, rfl, rfl⟩ := hrel
    by_cases hlt : k < n
    · obtain ⟨b, off, rfl, hbw, hcell⟩ := hc k hlt
      clear hc
      have hb1 := sum_take_bound l hv k (by have := HL.out; omega)
      have hb2 := sum_take_bound l hv (k + 1) (by have := HL.out; omega)
      rw [sum_take_succ l k (by have := HL.out; omega)] at hb2
      have hs := hid (sum_take_succ l k (by have := HL.out; omega))
      go_wp2
      go_round
      case rel => exact ⟨k + 1, by omega, by go_num, by rw [hs.out]⟩
      case measure => simp [intOf]; omega
    · go_wp2
      go_ret
      exact ⟨ret_int (by rw [List.take_of_length_le (by have := HL.out; omega)]), rfl⟩
theorem l_eqIntS_eq (a b : Option Addr) (n c d : Nat) (l l' : List Int) (w : World) (h : IntsAt w a n l) (h' : IntsAt w b n l') (hn : n ≤ 4194304) :
    Calls Try.prog 10 #[.slice a n c, .slice b n d] w fun e w' => e = .returned (.bool (decide (l = l'))) ∧ Below w.heap.size w w' := by
  obtain ⟨hl, hc⟩ := h
  obtain ⟨hl', hc'⟩ := h'
  have HL := hid hl
  have HL' := hid hl'
  clear hl hl'
  go_enter Try.func10, Try.ntmps10
  go_wp2
  go_loopw [5] (fun i wr => ∃ k t : Nat, k ≤ n ∧ i = .int .i64 k ∧ wr = w.drewN t ∧ l.take k = l'.take k) (fun i _ => n - (intOf i).toNat)
  case atStart => exact ⟨0, 0, Nat.zero_le _, rfl, rfl, by simp⟩
  case round =>
    obtain ⟨k, t, hk, rfl, rfl, heq⟩ := hrel
    have HE := hid heq
    clear heq
    by_cases hlt : k < n
    · obtain ⟨b1, off, rfl, hbw, hcell⟩ := hc k hlt
      obtain ⟨b2, off2, rfl, hbw2, hcell2⟩ := hc' k hlt
      clear hc hc'
      have e1 := hid (take_succ' l k (by have := HL.out; omega))
      have e2 := hid (take_succ' l' k (by have := HL'.out; omega))
      by_cases hx : l[k]?.getD 0 = l'[k]?.getD 0
      · have hx' : (l[k]?.getD 0 != l'[k]?.getD 0) = false := by simp [hx]
        have HX := hid hx
        clear hx
        go_wp2
        go_quiet (fail)
        go_wp2
        go_roundw
        case rel => exact ⟨k + 1, _, by omega, by go_num, rfl, by rw [e1.out, e2.out, HE.out, HX.out]⟩
        case measure => simp [intOf]; omega
      · have hx' : (l[k]?.getD 0 != l'[k]?.getD 0) = true := by simp [hx]
        go_wp2
        go_quiet (fail)
        go_wp2
        go_ret
        exact ⟨ret_bool (by symm; simp only [decide_eq_false_iff_not]; intro e; subst e; exact hx rfl), drew_drewN _ _⟩
    · go_wp2
      go_ret
      refine ⟨ret_bool ?_, bdraws _⟩
      have e := HE.out
      rw [List.take_of_length_le (by have := HL.out; omega), List.take_of_length_le (by have := HL'.out; omega)] at e
      simp [e]

theorem l_eqIntS (a b : Option Addr) (n m c d : Nat) (l l' : List Int) (w : World) (h : IntsAt w a n l) (h' : IntsAt w b m l') (hn : n ≤ 4194304) (hm : m ≤ 4194304) :
    Calls Try.prog 10 #[.slice a n c, .slice b m d] w fun e w' => e = .returned (.bool (decide (l = l'))) ∧ Below w.heap.size w w' := by
  by_cases hnm : n = m
  · subst hnm
    exact l_eqIntS_eq a b n c d l l' w h h' hn
  · have hne : decide (l = l') = false := by
      simp only [decide_eq_false_iff_not]; intro e; subst e; exact hnm (h.1.symm.trans h'.1)
    clear h h'
    have HN := hid hne
    clear hne
    go_enter Try.func10, Try.ntmps10
    go_wp2
    go_ret
    exact ⟨ret_bool HN.out.symm, Below.refl _ _⟩
theorem l_vInts_eq (a b : Option Addr) (n c d : Nat) (l l' : List Int) (w : World) (h : IntsAt w a n l) (h' : IntsAt w b n l') (hn : n ≤ 4194304) :
    Calls Try.prog 17 #[.slice a n c, .slice b n d] w fun e w' => e = .returned (.bool (decide (l = l'))) ∧ Below w.heap.size w w' := by
  obtain ⟨hl, hc⟩ := h
  obtain ⟨hl', hc'⟩ := h'
  have HL := hid hl
  have HL' := hid hl'
  clear hl hl'
  go_enter Try.func17, Try.ntmps17
  go_wp2
  go_loopw [5] (fun i wr => ∃ k t : Nat, k ≤ n ∧ i = .int .i64 k ∧ wr = w.drewN t ∧ l.take k = l'.take k) (fun i _ => n - (intOf i).toNat)
  case atStart => exact ⟨0, 0, Nat.zero_le _, rfl, rfl, by simp⟩
  case round =>
    obtain ⟨k, t, hk, rfl, rfl, heq⟩ := hrel
    have HE := hid heq
    clear heq
    by_cases hlt : k < n
    · obtain ⟨b1, off, rfl, hbw, hcell⟩ := hc k hlt
      obtain ⟨b2, off2, rfl, hbw2, hcell2⟩ := hc' k hlt
      clear hc hc'
      have e1 := hid (take_succ' l k (by have := HL.out; omega))
      have e2 := hid (take_succ' l' k (by have := HL'.out; omega))
      by_cases hx : l[k]?.getD 0 = l'[k]?.getD 0
      · have hx' : (l[k]?.getD 0 != l'[k]?.getD 0) = false := by simp [hx]
        have HX := hid hx
        clear hx
        go_wp2
        go_quiet (fail)
        go_wp2
        go_roundw
        case rel => exact ⟨k + 1, _, by omega, by go_num, rfl, by rw [e1.out, e2.out, HE.out, HX.out]⟩
        case measure => simp [intOf]; omega
      · have hx' : (l[k]?.getD 0 != l'[k]?.getD 0) = true := by simp [hx]
        go_wp2
        go_quiet (fail)
        go_wp2
        go_ret
        exact ⟨ret_bool (by symm; simp only [decide_eq_false_iff_not]; intro e; subst e; exact hx rfl), drew_drewN _ _⟩
    · go_wp2
      go_ret
      refine ⟨ret_bool ?_, bdraws _⟩
      have e := HE.out
      rw [List.take_of_length_le (by have := HL.out; omega), List.take_of_length_le (by have := HL'.out; omega)] at e
      simp [e]

theorem l_vInts (a b : Option Addr) (n m c d : Nat) (l l' : List Int) (w : World) (h : IntsAt w a n l) (h' : IntsAt w b m l') (hn : n ≤ 4194304) (hm : m ≤ 4194304) :
    Calls Try.prog 17 #[.slice a n c, .slice b m d] w fun e w' => e = .returned (.bool (decide (l = l'))) ∧ Below w.heap.size w w' := by
  by_cases hnm : n = m
  · subst hnm
    exact l_vInts_eq a b n c d l l' w h h' hn
  · have hne : decide (l = l') = false := by
      simp only [decide_eq_false_iff_not]; intro e; subst e; exact hnm (h.1.symm.trans h'.1)
    clear h h'
    have HN := hid hne
    clear hne
    go_enter Try.func17, Try.ntmps17
    go_wp2
    go_ret
    exact ⟨ret_bool HN.out.symm, Below.refl _ _⟩
theorem l_heldIntS (a : Option Addr) (n c : Nat) (k0 : Int) (w : World) (h : IntsAt w a n (marks k0 n)) (hn : n ≤ 4194304) (hk : 0 ≤ k0 ∧ k0 ≤ 1000000000000) :
    Calls Try.prog 14 #[.slice a n c, .int .i64 k0] w fun e w' => e = .returned (.int .i64 (k0 + n)) ∧ w = w' := by
  obtain ⟨hl, hc⟩ := h
  clear hl
  go_enter Try.func14, Try.ntmps14
  go_wp2
  go_loop [1, 5] (fun s i => ∃ k : Nat, k ≤ n ∧ i = .int .i64 k ∧ s = .int .i64 (k0 + k)) (fun _ i => n - (intOf i).toNat)
  case atStart => exact ⟨0, Nat.zero_le _, rfl, by simp⟩
  case round =>
    obtain ⟨k, hkn, rfl, rfl⟩ := hrel
    by_cases hlt : k < n
    · obtain ⟨b, off, rfl, hbw, hcell⟩ := hc k hlt
      clear hc
      rw [marks_get _ _ _ hlt] at hcell
      go_wp2
      go_round
      case rel => exact ⟨k + 1, by omega, by go_num, by congr 1; omega⟩
      case measure => simp [intOf]; omega
    · go_wp2
      go_ret
      exact ⟨ret_int (by omega), rfl⟩
theorem l_markIntS (a : Option Addr) (n c B : Nat) (l : List Int) (k0 : Int) (w : World) (h : OwnI w B (.slice a n c) l) (hn : n ≤ 4194304) (hk : 0 ≤ k0 ∧ k0 ≤ 1000000000000) :
    Calls Try.prog 13 #[.slice a n c, .int .i64 k0] w fun e w' => e = .returned (.int .i64 (k0 + n)) ∧ OwnI w' B (.slice a n c) (marks k0 n) ∧ w.grownBy w' (Value.ownBlock (.slice a n c)) := by
  rcases h.2 with ⟨h1, h0⟩ | ⟨g, cap, cur, h1, hB, hg, hnc, hm, hs, ht⟩
  · simp only [Value.slice.injEq] at h1
    obtain ⟨rfl, rfl, rfl⟩ := h1
    go_enter Try.func13, Try.ntmps13
    go_wp2
    refine wp_loop_rounds 1 ?_
    rw [rounds_succ]
    go_wp2
    go_ret
    exact ⟨ret_int (by simp), World.ownsRow_nil _ _ _ _, World.grownBy.refl _ _⟩
  · simp only [Value.slice.injEq] at h1
    obtain ⟨rfl, rfl, rfl⟩ := h1
    clear hg hs ht hm hnc hB
    have H := hid h
    clear h
    have HN := hid (rfl : l.length = l.length)
    revert H HN
    generalize hN : l.length = N at hn ⊢
    intro H _
    go_enter Try.func13, Try.ntmps13
    go_wp2
    go_loopw [1, 5] (fun s i wr => ∃ (k : Nat) (l' : List Int), k ≤ N ∧ i = .int .i64 k ∧ s = .int .i64 (k0 + k) ∧ Hid (OwnI wr B (.slice (some ⟨g, 0, none⟩) N c) l' ∧ l'.length = N ∧ (∀ j, j < k → l'[j]?.getD 0 = k0 + j) ∧ w.grownBy wr (some g))) (fun _ i _ => N - (intOf i).toNat)
    case atStart => exact ⟨0, l, Nat.zero_le _, rfl, by simp, H.out, hN, fun j hj => absurd hj (by omega), World.grownBy.refl _ _⟩
    case round =>
      obtain ⟨k, l', hkn, rfl, rfl, hh⟩ := hrel
      by_cases hlt : k < N
      · have hcell := hh.out.1.cell (k := k) hlt
        have hfr := hh.out.1.frozen (k := k)
        go_wp2
        go_roundw
        case rel =>
          refine ⟨k + 1, l'.set k (k0 + k), by omega, by go_num, by congr 1; omega, (hh.out.1.set _).1, by rw [List.length_set]; exact hh.out.2.1, ?_, grownBy_trans hh.out.2.2.2 (hh.out.1.set _).2⟩
          intro j hj
          have hle := hh.out.2.1
          by_cases e : k = j
          · subst e; rw [List.getElem?_set_self (by omega)]; rfl
          · rw [List.getElem?_set_ne e]; exact hh.out.2.2.1 j (by omega)
        case measure => simp [intOf]; omega
      · go_wp2
        go_ret
        have hkN : k = N := by omega
        refine ⟨ret_int (by omega), ?_, hh.out.2.2.2⟩
        subst hkN
        exact (marks_ext hh.out.2.1 hh.out.2.2.1) ▸ hh.out.1

theorem i_copyInts (a : Option Addr) (n c : Nat) (l : List Int) (w : World) (h : IntsAt w a n l) (hn : n ≤ 4194304) :
    Calls Try.prog 86 #[.slice a n c] w fun e w' => ∃ a' c', e = .returned (.slice a' n c') ∧ OwnI w' w.heap.size (.slice a' n c') l ∧ Below w.heap.size w w' := by
  have H := hid h
  clear h
  go_enter Try.func86, Try.ntmps86
  go_wp2_with (at_builtin; refine wp_append_ints _ rfl _ _ rfl w.heap.size _ [] rfl (OwnI.lit0 w) a n c l rfl (H.out.below ((Below.refl _ _).alloc (Nat.le_refl _) _)) n (by simp) (by omega) (by simp) ?_)
  intro a' c' w' hown hgrow _
  have HO := hid hown
  have HG := hid hgrow
  clear hown hgrow
  go_wp2
  go_ret
  exact ⟨_, _, rfl, HO.out, ((Below.refl _ _).alloc (Nat.le_refl _) _).grown HG.out (by simp) (fun k hk => by simp [Value.ownBlock] at hk; omega)⟩
theorem s_l1Own (a : Option Addr) (n c : Nat) (l : List Int) (w : World) (h : IntsAt w a n l) (hn : n ≤ 4194304) :
    Calls Try.prog 79 #[.slice a n c] w fun e w' => ∃ a' c', e = .returned (.slice a' n c') ∧ OwnI w' w.heap.size (.slice a' n c') l ∧ Below w.heap.size w w' := by
  have H := hid h
  clear h
  go_enter Try.func79, Try.ntmps79
  go_wp2_with (at_builtin; refine wp_append_ints _ rfl _ _ rfl w.heap.size _ [] rfl (OwnI.lit0 w) a n c l rfl (H.out.below ((Below.refl _ _).alloc (Nat.le_refl _) _)) n (by simp) (by omega) (by simp) ?_)
  intro a' c' w' hown hgrow _
  have HO := hid hown
  have HG := hid hgrow
  clear hown hgrow
  go_wp2
  go_ret
  exact ⟨_, _, rfl, HO.out, ((Below.refl _ _).alloc (Nat.le_refl _) _).grown HG.out (by simp) (fun k hk => by simp [Value.ownBlock] at hk; omega)⟩
theorem l_toIntS (a : Option Addr) (n c : Nat) (l : List Int) (w : World) (h : IntsAt w a n l) (hn : n ≤ 4194304) :
    Calls Try.prog 8 #[.slice a n c] w fun e w' => ∃ a' c', e = .returned (.slice a' n c') ∧ OwnI w' w.heap.size (.slice a' n c') l ∧ Below w.heap.size w w' := by
  obtain ⟨i0, hi, hz0, hz1, hz2⟩ := info_parts Try.infoInt
  have H := hid h
  clear h
  have HI := hid hi
  have HZ := hid hz0
  have HZ1 := hid hz1
  have HZ2 := hid hz2
  clear hi hz0 hz1 hz2
  go_enter Try.func8, Try.ntmps8
  go_wp2_with (at_make; refine wpList_make_full _ rfl _ _ 25 rfl w.heap.size 3 i0 (.int .i64 0) 1 Try.underlying25 HI.out HZ.out HZ1.out _ _ _ _ n rfl rfl rfl rfl ?b2 ?b3 ?b4 ?_)
  case b2 => rw [HZ2.out]; omega
  case b3 => unfold maxLen; omega
  case b4 => exact Nat.le_refl _
  intro w1 hown hgrow
  have ho := OwnI.made hown
  have HO := hid ho
  have HB := hid (below_of_grown hgrow (Nat.le_refl _) (fun k hk => by simp at hk))
  clear hown ho hgrow
  go_wp2
  go_loopw [4] (fun i wr => ∃ (k : Nat) (l' : List Int), k ≤ n ∧ i = .int .i64 k ∧ Hid (OwnI wr w.heap.size (.slice (some ⟨w.heap.size, 0, none⟩) n n) l' ∧ l'.take k = l.take k ∧ Below w.heap.size w wr)) (fun i _ => n - (intOf i).toNat)
  case atStart => exact ⟨0, List.replicate n 0, Nat.zero_le _, rfl, HO.out, by simp, HB.out⟩
  case round =>
    obtain ⟨k, l', hk, rfl, hh⟩ := hrel
    clear HO HB
    by_cases hlt : k < n
    · obtain ⟨b, off, rfl, hbw, hcell⟩ := (H.out.below hh.out.2.2).2 k hlt
      have hcell2 := hh.out.1.cell (k := k) hlt
      have hfr := hh.out.1.frozen (k := k)
      go_wp2
      go_roundw
      case rel =>
        refine ⟨k + 1, l'.set k (l[k]?.getD 0), by omega, by go_num, (hh.out.1.set _).1, ?_, hh.out.2.2.grown (hh.out.1.set (k := k) (l[k]?.getD 0)).2 hh.out.2.2.size (fun q hq => by simp at hq; omega)⟩
        have hl := hh.out.1.len
        have hl2 := H.out.1
        rw [take_succ' l k (by omega), take_succ' _ k (by rw [List.length_set]; omega), List.take_set, List.getElem?_set_self (by omega), ← hh.out.2.1, List.set_eq_of_length_le (by rw [List.length_take]; omega)]
        rfl
      case measure => simp [intOf]; omega
    · go_wp2
      go_ret
      have hl := hh.out.1.len
      have hl2 := H.out.1
      have e := hh.out.2.1
      rw [List.take_of_length_le (by omega), List.take_of_length_le (by omega)] at e
      exact ⟨_, _, rfl, e ▸ hh.out.1, hh.out.2.2⟩

end Go.Proofs.Ytikjighlnpdgiaa

