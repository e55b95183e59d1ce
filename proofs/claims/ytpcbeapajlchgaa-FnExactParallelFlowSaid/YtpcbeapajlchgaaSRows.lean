/-
  Small laws on slices of structs whose fields are all of one cell.
-/
import Derived.Test.YtpcbeapajlchgaaBase
set_option linter.unusedVariables false
set_option linter.unusedSimpArgs false
set_option linter.unusedSectionVars false
namespace Go.Proofs.Ytpcbeapajlchgaa
open Go.RowKit

theorem flat_len {α : Type} (f : α → List Value) (s : Nat) (hf : ∀ x, (f x).length = s) : ∀ l : List α, (l.flatMap f).length = l.length * s
  | [] => by simp
  | x :: r => by simp only [List.flatMap_cons, List.length_append, hf, flat_len f s hf r, List.length_cons]; rw [Nat.add_mul]; omega

theorem flat_get {α : Type} (f : α → List Value) (s : Nat) (hf : ∀ x, (f x).length = s) : ∀ (l : List α) (k j : Nat) (hk : k < l.length), j < s → (l.flatMap f)[k * s + j]? = (f l[k])[j]?
  | [], k, j, hk, hj => by simp at hk
  | x :: r, 0, j, hk, hj => by
    simp only [List.flatMap_cons, Nat.zero_mul, Nat.zero_add, List.getElem_cons_zero]
    rw [List.getElem?_append_left (by rw [hf]; exact hj)]
  | x :: r, k + 1, j, hk, hj => by
    simp only [List.flatMap_cons, List.getElem_cons_succ]
    rw [List.getElem?_append_right (by rw [hf, Nat.add_mul]; omega), hf]
    rw [show (k + 1) * s + j - s = k * s + j from by rw [Nat.add_mul]; omega]
    exact flat_get f s hf r k j (by simpa using hk) hj

theorem flat_set {α : Type} (f : α → List Value) (s : Nat) (hf : ∀ x, (f x).length = s) : ∀ (l : List α) (k j : Nat) (hk : k < l.length) (y : α) (v : Value), j < s → f y = (f l[k]).set j v → (l.flatMap f).set (k * s + j) v = (l.set k y).flatMap f
  | [], k, j, hk, y, v, hj, h => by simp at hk
  | x :: r, 0, j, hk, y, v, hj, h => by
    simp only [List.flatMap_cons, Nat.zero_mul, Nat.zero_add, List.set_cons_zero]
    rw [List.set_append_left _ _ (by rw [hf]; exact hj), h]; rfl
  | x :: r, k + 1, j, hk, y, v, hj, h => by
    simp only [List.flatMap_cons, List.set_cons_succ]
    rw [List.set_append_right _ _ (by rw [hf, Nat.add_mul]; omega), hf]
    rw [show (k + 1) * s + j - s = k * s + j from by rw [Nat.add_mul]; omega]
    rw [flat_set f s hf r k j (by simpa using hk) y v hj (by simpa using h)]

/-- A slice of structs that can be read. -/
def SAt {α : Type} [Inhabited α] (f : α → List Value) (s : Nat) (w : World) (a : Option Addr) (n : Nat) (l : List α) : Prop :=
  l.length = n ∧ ∀ k, k < n → ∃ b off, a = some ⟨b, off, none⟩ ∧ b < w.heap.size ∧ ∀ j, j < s → w.cell? ⟨b, off + k * s + j, none⟩ = (f (l[k]?.getD default))[j]?

section
variable {α : Type} [Inhabited α] {f : α → List Value} {s : Nat} {w w' : World} {a : Option Addr} {n : Nat} {l : List α}

theorem SAt.below (h : SAt f s w a n l) (hb : Below w.heap.size w w') : SAt f s w' a n l :=
  ⟨h.1, fun k hk => let ⟨b, off, h1, h2, h3⟩ := h.2 k hk; ⟨b, off, h1, Nat.lt_of_lt_of_le h2 hb.size, fun j hj => (hb.cell (p := ⟨b, off + k * s + j, none⟩) h2).trans (h3 j hj)⟩⟩

theorem SAt.nil (w : World) (a : Option Addr) : SAt f s w a 0 [] := ⟨rfl, fun k hk => absurd hk (by omega)⟩

/-- A slice of structs of the call's own. -/
def OwnS (f : α → List Value) (s : Nat) (e : TypeId) (w : World) (B : Nat) (v : Value) (l : List α) : Prop := w.ownsRow B e s v l.length (l.flatMap f)

variable {e : TypeId} {B : Nat} {v : Value}

theorem OwnS.form (h : OwnS f s e w B v l) : ∃ a c, v = .slice a l.length c := by
  rcases h.2 with ⟨rfl, h0⟩ | ⟨g, cap, cur, rfl, _⟩
  · exact ⟨none, 0, by rw [h0]⟩
  · exact ⟨_, _, rfl⟩

theorem OwnS.at {c : Nat} (hf : ∀ x, (f x).length = s) (h : OwnS f s e w B (.slice a n c) l) : SAt f s w a n l := by
  have h' := h
  unfold OwnS at h
  rcases h.2 with ⟨h1, h0⟩ | ⟨g, cap, cur, h1, hB, hg, hnc, hm, hs, ht⟩
  · simp only [Value.slice.injEq] at h1
    obtain ⟨rfl, rfl, rfl⟩ := h1
    have : l = [] := List.eq_nil_of_length_eq_zero h0
    subst this
    exact SAt.nil _ _
  · simp only [Value.slice.injEq] at h1
    obtain ⟨rfl, rfl, rfl⟩ := h1
    refine ⟨rfl, fun k hk => ⟨g, 0, rfl, (Array.getElem?_eq_some_iff.1 hg).1, fun j hj => ?_⟩⟩
    have hlt : k * s + j < l.length * s := by
      have : (k + 1) * s ≤ l.length * s := Nat.mul_le_mul_right s hk
      rw [Nat.add_mul] at this; omega
    have := World.ownsRow.cellAt h' (k * s + j) hlt
    rw [Nat.zero_add, this, flat_get f s hf l k j hk hj, List.getElem?_eq_getElem hk]
    rfl

theorem OwnS.len {c : Nat} (h : OwnS f s e w B (.slice a n c) l) : l.length = n := by
  obtain ⟨a', c', hv⟩ := h.form
  simp only [Value.slice.injEq] at hv
  exact hv.2.1.symm

theorem OwnS.below (h : OwnS f s e w B v l) (hb : Below w.heap.size w w') : OwnS f s e w' B v l := by
  refine ⟨h.1, ?_⟩
  rcases h.2 with h2 | ⟨g, cap, cur, hv, hg, hh, r⟩
  · exact Or.inl h2
  · exact Or.inr ⟨g, cap, cur, hv, hg, by rw [hb.block g (Array.getElem?_eq_some_iff.1 hh).1]; exact hh, r⟩

theorem OwnS.mono {B' : Nat} (h : OwnS f s e w B v l) (hb : B' ≤ B) : OwnS f s e w B' v l := by
  refine ⟨h.1, ?_⟩
  rcases h.2 with h2 | ⟨g, cap, cur, hv, hg, r⟩
  · exact Or.inl h2
  · exact Or.inr ⟨g, cap, cur, hv, Nat.le_trans hb hg, r⟩

theorem OwnS.lt (h : OwnS f s e w B v l) : ∀ k, v.ownBlock = some k → B ≤ k ∧ k < w.heap.size := World.ownsRow.lt h
theorem OwnS.kept {row : Option Nat} (h : OwnS f s e w B v l) (hg : w.grownBy w' row) (hne : v.ownBlock = none ∨ v.ownBlock ≠ row) : OwnS f s e w' B v l := World.ownsRow.kept h hg hne
theorem OwnS.alloc (h : OwnS f s e w B v l) (o : Obj) : OwnS f s e (w.alloc o) B v l := World.ownsRow.alloc h o
theorem OwnS.lit0 (w : World) : OwnS f s e (w.alloc (.cells #[] e)) w.heap.size (.slice (some ⟨w.heap.size, 0, none⟩) 0 0) ([] : List α) :=
  World.ownsRow_lit w #[] 0 (Nat.le_refl _) (Nat.zero_le _) (by simp)
theorem OwnS.nil (w : World) (B : Nat) : OwnS f s e w B (.slice none 0 0) ([] : List α) := World.ownsRow_nil _ _ _ _

theorem OwnS.row {c : Nat} (h : OwnS f s e w B (.slice a n c) l) : w.ownsRow B e s (.slice a n c) n (l.flatMap f) := by
  have e' := h.len; unfold OwnS at h; rw [e'] at h; exact h

theorem OwnS.of_row (hf : ∀ x, (f x).length = s) (hs : 0 < s) (h : w.ownsRow B e s v n (l.flatMap f)) : OwnS f s e w B v l := by
  have e' : n = l.length := by
    have := h.1
    rw [flat_len f s hf] at this
    exact (Nat.eq_of_mul_eq_mul_right hs this).symm
  subst e'; exact h

theorem OwnS.frozen {g j c : Nat} (h : OwnS f s e w B (.slice (some ⟨g, 0, none⟩) n c) l) : w.frozen? ⟨g, j, none⟩ = false := World.ownsRow.frozenAt h.row j

/-- a store into field j of element k -/
theorem OwnS.set {g k j c : Nat} (hf : ∀ x, (f x).length = s) (hs : 0 < s) (h : OwnS f s e w B (.slice (some ⟨g, 0, none⟩) n c) l) (hk : k < n) (hj : j < s) (u : Value) (y : α) (hy : f y = (f (l[k]?.getD default)).set j u) :
    OwnS f s e (w.setCell ⟨g, k * s + j, none⟩ u) B (.slice (some ⟨g, 0, none⟩) n c) (l.set k y) ∧ w.grownBy (w.setCell ⟨g, k * s + j, none⟩ u) (some g) := by
  obtain ⟨h1, h2⟩ := World.ownsRow.stored h.row (k * s + j) u
  have hl := h.len
  refine ⟨OwnS.of_row hf hs (n := n) ?_, h2⟩
  rw [← flat_set f s hf l k j (by omega) y u hj (by rw [List.getElem?_eq_getElem (by omega)] at hy; exact hy)]
  exact h1

theorem SAt.cells (hf : ∀ x, (f x).length = s) (h1 : ∀ x, ∀ u ∈ f x, u.oneCell' = true) (h : SAt f s w a n l) : CellsAt w a n s (l.flatMap f) := by
  refine ⟨by rw [flat_len f s hf, h.1], ?_, ?_, ?_⟩
  · intro ha
    by_cases hn : n = 0
    · exact hn
    · obtain ⟨b, off, h1, _⟩ := h.2 0 (by omega)
      rw [ha] at h1; cases h1
  · intro ad ha j u hu
    have hlen : (l.flatMap f).length = n * s := by rw [flat_len f s hf, h.1]
    have hj : j < n * s := by
      have := (List.getElem?_eq_some_iff.1 hu).1
      omega
    have hs : 0 < s := by
      rcases Nat.eq_zero_or_pos s with e | e
      · subst e; simp at hj
      · exact e
    have hk : j / s < n := (Nat.div_lt_iff_lt_mul hs).2 hj
    have hm : j % s < s := Nat.mod_lt _ hs
    obtain ⟨b, off, h1, h2, h3⟩ := h.2 (j / s) hk
    rw [ha] at h1; cases h1
    have e1 : j / s * s + j % s = j := by rw [Nat.mul_comm]; exact Nat.div_add_mod j s
    have h4 := h3 (j % s) hm
    rw [Nat.add_assoc, e1] at h4
    rw [addr_add, h4]
    have h5 := flat_get f s hf l (j / s) (j % s) (by rw [h.1]; exact hk) hm
    rw [e1, hu] at h5
    have h6 : l[j / s]?.getD default = l[j / s]'(by rw [h.1]; exact hk) := by rw [List.getElem?_eq_getElem (by rw [h.1]; exact hk)]; rfl
    rw [h6]
    exact h5.symm
  · intro u hu
    obtain ⟨x, _, hx⟩ := List.mem_flatMap.1 hu
    exact h1 x u hx

theorem SAt.single (w : World) (x : α) (hf : ∀ x, (f x).length = s) : SAt f s (w.alloc (.cells (f x).toArray e)) (some ⟨w.heap.size, 0, none⟩) 1 [x] := by
  refine ⟨rfl, fun k hk => ⟨w.heap.size, 0, rfl, by simp, fun j hj => ?_⟩⟩
  obtain rfl : k = 0 := by omega
  rw [World.cell?_alloc_at _ _ _ _ rfl]; simp
end

/-- The cells of one struct, stored one by one. -/
def setCellsFrom (w : World) (b : Nat) (off : Nat) : List Value → World
  | [] => w
  | v :: r => setCellsFrom (w.setCell ⟨b, off, none⟩ v) b (off + 1) r
def setFrom (L : List Value) (off : Nat) : List Value → List Value
  | [] => L
  | v :: r => setFrom (L.set off v) (off + 1) r

theorem setFrom_mid : ∀ (vs P A R : List Value), A.length = vs.length → setFrom (P ++ (A ++ R)) P.length vs = P ++ (vs ++ R)
  | [], P, A, R, h => by
    have : A = [] := List.eq_nil_of_length_eq_zero h
    subst this; rfl
  | v :: r, P, [], R, h => by simp at h
  | v :: r, P, x :: A, R, h => by
    have e : (P ++ (x :: A ++ R)).set P.length v = (P ++ [v]) ++ (A ++ R) := by
      rw [List.set_append_right _ _ (Nat.le_refl _)]; simp
    have := setFrom_mid r (P ++ [v]) A R (by simpa using h)
    rw [List.length_append] at this
    rw [setFrom, e]
    rw [show P.length + 1 = P.length + [v].length from rfl, this]; simp

theorem flat_setAll {α : Type} (f : α → List Value) (s : Nat) (hf : ∀ x, (f x).length = s) (l : List α) (k : Nat) (hk : k < l.length) (y : α) : setFrom (l.flatMap f) (k * s) (f y) = (l.set k y).flatMap f := by
  have e : l = l.take k ++ (l[k] :: l.drop (k + 1)) := by rw [← List.drop_eq_getElem_cons hk, List.take_append_drop]
  have e2 : l.set k y = l.take k ++ (y :: l.drop (k + 1)) := by rw [List.set_eq_take_append_cons_drop, if_pos hk]
  have e3 : l.flatMap f = (l.take k).flatMap f ++ (f l[k] ++ (l.drop (k + 1)).flatMap f) := by
    conv => lhs; rw [e]
    rw [List.flatMap_append, List.flatMap_cons]
  have e4 : ((l.take k).flatMap f).length = k * s := by rw [flat_len f s hf, List.length_take, Nat.min_eq_left (by omega)]
  rw [e2, List.flatMap_append, List.flatMap_cons, e3, ← e4]
  exact setFrom_mid _ _ _ _ (by rw [hf, hf])

theorem madeFlat {α : Type} (f : α → List Value) (s : Nat) (hf : ∀ x, (f x).length = s) (hs : 0 < s) (x : α) (z : Array Value) (hz : z.toList = f x) (n : Nat) : (madeCells z (n * s)).toList = (List.replicate n x).flatMap f := by
  have hzs : z.size = s := by rw [← Array.length_toList, hz, hf]
  apply List.ext_getElem?
  intro i
  by_cases hi : i < n * s
  · have hk : i / s < n := (Nat.div_lt_iff_lt_mul hs).2 hi
    have hm : i % s < s := Nat.mod_lt _ hs
    have h5 := flat_get f s hf (List.replicate n x) (i / s) (i % s) (by simpa using hk) hm
    have e1 : i / s * s + i % s = i := by rw [Nat.mul_comm]; exact Nat.div_add_mod i s
    rw [e1, List.getElem_replicate] at h5
    rw [h5, ← hz]
    simp only [madeCells, Array.toList_map, List.getElem?_map, Array.getElem?_toList]
    rw [Array.getElem?_eq_getElem (by simpa using hi), Array.getElem?_eq_getElem (by rw [hzs]; exact hm)]
    simp only [Option.map_some, Array.getElem_range, hzs]
    rw [getElem!_pos _ _ (by rw [hzs]; exact hm)]
  · rw [List.getElem?_eq_none (by simp [size_madeCells]; omega), List.getElem?_eq_none (by rw [flat_len f s hf]; simp; omega)]

section
variable {α : Type} [Inhabited α] {f : α → List Value} {s : Nat} {e : TypeId}
theorem rowFrom {B g n c : Nat} : ∀ (vs : List Value) (w : World) (L : List Value) (off : Nat), w.ownsRow B e s (.slice (some ⟨g, 0, none⟩) n c) n L → (setCellsFrom w g off vs).ownsRow B e s (.slice (some ⟨g, 0, none⟩) n c) n (setFrom L off vs) ∧ w.grownBy (setCellsFrom w g off vs) (some g)
  | [], w, L, off, h => ⟨h, World.grownBy.refl _ _⟩
  | v :: r, w, L, off, h => by
    obtain ⟨h1, h2⟩ := World.ownsRow.stored h off v
    obtain ⟨h3, h4⟩ := rowFrom r _ _ (off + 1) h1
    exact ⟨h3, grownBy_trans h2 h4⟩

/-- a store of a whole struct at element k -/
theorem OwnS.setAll {w : World} {B g k n c : Nat} {l : List α} (hf : ∀ x, (f x).length = s) (hs : 0 < s) (h : OwnS f s e w B (.slice (some ⟨g, 0, none⟩) n c) l) (hk : k < n) (y : α) :
    OwnS f s e (setCellsFrom w g (k * s) (f y)) B (.slice (some ⟨g, 0, none⟩) n c) (l.set k y) ∧ w.grownBy (setCellsFrom w g (k * s) (f y)) (some g) := by
  obtain ⟨h1, h2⟩ := rowFrom (f y) w _ (k * s) h.row
  refine ⟨OwnS.of_row hf hs (n := n) ?_, h2⟩
  rw [← flat_setAll f s hf l k (by have := h.len; omega) y]
  exact h1

theorem takeS {l : List α} (k : Nat) (hk : k < l.length) : l.take (k + 1) = l.take k ++ [l[k]?.getD default] := by
  rw [List.take_add_one, List.getElem?_eq_getElem hk]; rfl
theorem take_setS {l l' : List α} {k n : Nat} (hl : l.length = n) (hl' : l'.length = n) (hk : k < n) (e : l'.take k = l.take k) : (l'.set k (l[k]?.getD default)).take (k + 1) = l.take (k + 1) := by
  rw [takeS (l := l) k (by omega), takeS (l := l'.set k _) k (by rw [List.length_set]; omega), List.take_set, List.getElem?_set_self (by omega), ← e, List.set_eq_of_length_le (by rw [List.length_take]; omega)]
  rfl
end

theorem wp_append_s {α : Type} [Inhabited α] {f : α → List Value} {s : Nat} {ops : Array Oper} {rest : List Oper} {o : Oper} {a : Act} {Q : Exit → Act → World → Prop} (w : World) (hgd : o.guard = none) (so x : Operand) (t : TypeId)
    (ho : o.op = .call { callee := .builtin .append, args := #[so, x], argTypes := #[t, t] })
    (e : TypeId) (i : TypeInfo) (z : Value) (bytes : Nat) (ht : Try.prog.underlying t = some (.slice e)) (hi : Try.prog.info? e = some i) (hz : i.zero = some z) (hsize : i.size = s) (hby : i.bytes = bytes) (hzs : z.cells.size = s) (hs0 : 0 < s)
    (hf : ∀ x, (f x).length = s) (hone : ∀ x, ∀ u ∈ f x, u.oneCell' = true)
    (B : Nat) (v : Value) (l : List α) (hs : a.eval so = v) (hown : OwnS f s e w B v l)
    (ax : Option Addr) (m c : Nat) (l2 : List α) (hx : a.eval x = .slice ax m c) (hat : SAt f s w ax m l2)
    (N : Nat) (hN : l.length + m = N) (hb : N ≤ 1099511627776) (hbb : bytes ≤ 64) (hB : B ≤ w.heap.size)
    (h : ∀ a' c' w', OwnS f s e w' B (.slice a' N c') (l ++ l2) → w.grownBy w' v.ownBlock → (Value.ownBlock (.slice a' N c') = v.ownBlock ∨ Value.ownBlock (.slice a' N c') = some w.heap.size) → wpList Try.prog ops Q rest (a.put o.dst (.slice a' N c')) w') : wpList Try.prog ops Q (o :: rest) a w := by
  have hmul : (l.length + m) * bytes ≤ 140737488355328 := by
    have : (l.length + m) * bytes ≤ 1099511627776 * 64 := Nat.mul_le_mul (by omega) hbb
    omega
  refine wp_append_cells w hgd so x t ho B e i z s bytes ht hi hz hsize hby hzs hs0 v l.length _ hs hown ax m c _ hx (hat.cells hf hone) (by unfold maxLen; omega) hmul hB ?_
  intro v' w' h1 h2 h3
  have ho : OwnS f s e w' B v' (l ++ l2) := OwnS.of_row hf hs0 (n := l.length + m) (by rw [List.flatMap_append]; exact h1)
  obtain ⟨a', c', rfl⟩ := ho.form
  have e' : (l ++ l2).length = N := by rw [List.length_append, hat.1]; exact hN
  rw [e'] at ho h3 ⊢
  exact h a' c' w' ho h2 h3

end Go.Proofs.Ytpcbeapajlchgaa
