/-
  Texts of this claim, joined: SRows, PipeA, Calm, NetA, NetR, NetQ, Queue.
-/
import Derived.ArgAppend
import Derived.Test.YtikjighlnpdgiaaRr1
/-
  Small laws on slices of structs whose fields are all of one cell.
-/
set_option linter.unusedVariables false
set_option linter.unusedSimpArgs false
set_option linter.unusedSectionVars false
namespace Go.Proofs.Ytikjighlnpdgiaa
open Go.RowKit

theorem flat_len {α : Type} (f : α → List Value) (s : Nat) (hf : ∀ x, (f x).length = s) : ∀ l : List α, (l.flatMap f).length = l.length * s
  | [] => by simp
  | x :: r => by simp only [List.flatMap_cons, List.length_append, hf, flat_len f s hf r, List.length_cons]; rw [Nat.add_mul]; omega

theorem flat_get {α : Type} (f : α → List Value) (s : Nat) (hf : ∀ x, (f x).length = s) : ∀ (l : List α) (k j : Nat) (hk : k < l.length), j < s → (l.flatMap f)[k * s + j]? = (f l[k])[j]?
  | [], k, j, hk, hj => by simp at hk
  | x :: r, 0, j, hk, hj => by
    simp only [List.flatMap_cons, Nat.zero_mul, Nat.zero_add, List.getElem_cons_zero]
    rw [List.getElem?_append_left (by rw [hf]; exact hj)]
  | x :: r, k + 1, j, hk, hj => by
    simp only [List.flatMap_cons, List.getElem_cons_succ]
    rw [List.getElem?_append_right (by rw [hf, Nat.add_mul]; omega), hf]
    rw [show (k + 1) * s + j - s = k * s + j from by rw [Nat.add_mul]; omega]
    exact flat_get f s hf r k j (by simpa using hk) hj

theorem flat_set {α : Type} (f : α → List Value) (s : Nat) (hf : ∀ x, (f x).length = s) : ∀ (l : List α) (k j : Nat) (hk : k < l.length) (y : α) (v : Value), j < s → f y = (f l[k]).set j v → (l.flatMap f).set (k * s + j) v = (l.set k y).flatMap f
  | [], k, j, hk, y, v, hj, h => by simp at hk
  | x :: r, 0, j, hk, y, v, hj, h => by
    simp only [List.flatMap_cons, Nat.zero_mul, Nat.zero_add, List.set_cons_zero]
    rw [List.set_append_left _ _ (by rw [hf]; exact hj), h]; rfl
  | x :: r, k + 1, j, hk, y, v, hj, h => by
    simp only [List.flatMap_cons, List.set_cons_succ]
    rw [List.set_append_right _ _ (by rw [hf, Nat.add_mul]; omega), hf]
    rw [show (k + 1) * s + j - s = k * s + j from by rw [Nat.add_mul]; omega]
    rw [flat_set f s hf r k j (by simpa using hk) y v hj (by simpa using h)]

/-- A slice of structs that can be read. -/
def SAt {α : Type} [Inhabited α] (f : α → List Value) (s : Nat) (w : World) (a : Option Addr) (n : Nat) (l : List α) : Prop :=
  l.length = n ∧ ∀ k, k < n → ∃ b off, a = some ⟨b, off, none⟩ ∧ b < w.heap.size ∧ ∀ j, j < s → w.cell? ⟨b, off + k * s + j, none⟩ = (f (l[k]?.getD default))[j]?

section
variable {α : Type} [Inhabited α] {f : α → List Value} {s : Nat} {w w' : World} {a : Option Addr} {n : Nat} {l : List α}

theorem SAt.below (h : SAt f s w a n l) (hb : Below w.heap.size w w') : SAt f s w' a n l :=
  ⟨h.1, fun k hk => let ⟨b, off, h1, h2, h3⟩ := h.2 k hk; ⟨b, off, h1, Nat.lt_of_lt_of_le h2 hb.size, fun j hj => (hb.cell (p := ⟨b, off + k * s + j, none⟩) h2).trans (h3 j hj)⟩⟩

theorem SAt.nil (w : World) (a : Option Addr) : SAt f s w a 0 [] := ⟨rfl, fun k hk => absurd hk (by omega)⟩

/-- A slice of structs of the call's own. -/
def OwnS (f : α → List Value) (s : Nat) (e : TypeId) (w : World) (B : Nat) (v : Value) (l : List α) : Prop := w.ownsRow B e s v l.length (l.flatMap f)

variable {e : TypeId} {B : Nat} {v : Value}

theorem OwnS.form (h : OwnS f s e w B v l) : ∃ a c, v = .slice a l.length c := by
  rcases h.2 with ⟨rfl, h0⟩ | ⟨g, cap, cur, rfl, _⟩
  · exact ⟨none, 0, by rw [h0]⟩
  · exact ⟨_, _, rfl⟩

theorem OwnS.at {c : Nat} (hf : ∀ x, (f x).length = s) (h : OwnS f s e w B (.slice a n c) l) : SAt f s w a n l := by
  have h' := h
  unfold OwnS at h
  rcases h.2 with ⟨h1, h0⟩ | ⟨g, cap, cur, h1, hB, hg, hnc, hm, hs, ht⟩
  · simp only [Value.slice.injEq] at h1
    obtain ⟨rfl, rfl, rfl⟩ := h1
    have : l = [] := List.eq_nil_of_length_eq_zero h0
    subst this
    exact SAt.nil _ _
  · simp only [Value.slice.injEq] at h1
    obtain ⟨rfl, rfl, rfl⟩ := h1
    refine ⟨rfl, fun k hk => ⟨g, 0, rfl, (Array.getElem?_eq_some_iff.1 hg).1, fun j hj => ?_⟩⟩
    have hlt : k * s + j < l.length * s := by
      have : (k + 1) * s ≤ l.length * s := Nat.mul_le_mul_right s hk
      rw [Nat.add_mul] at this; omega
    have := World.ownsRow.cellAt h' (k * s + j) hlt
    rw [Nat.zero_add, this, flat_get f s hf l k j hk hj, List.getElem?_eq_getElem hk]
    rfl

theorem OwnS.len {c : Nat} (h : OwnS f s e w B (.slice a n c) l) : l.length = n := by
  obtain ⟨a', c', hv⟩ := h.form
  simp only [Value.slice.injEq] at hv
  exact hv.2.1.symm

theorem OwnS.below (h : OwnS f s e w B v l) (hb : Below w.heap.size w w') : OwnS f s e w' B v l := by
  refine ⟨h.1, ?_⟩
  rcases h.2 with h2 | ⟨g, cap, cur, hv, hg, hh, r⟩
  · exact Or.inl h2
  · exact Or.inr ⟨g, cap, cur, hv, hg, by rw [hb.block g (Array.getElem?_eq_some_iff.1 hh).1]; exact hh, r⟩

theorem OwnS.mono {B' : Nat} (h : OwnS f s e w B v l) (hb : B' ≤ B) : OwnS f s e w B' v l := by
  refine ⟨h.1, ?_⟩
  rcases h.2 with h2 | ⟨g, cap, cur, hv, hg, r⟩
  · exact Or.inl h2
  · exact Or.inr ⟨g, cap, cur, hv, Nat.le_trans hb hg, r⟩

theorem OwnS.lt (h : OwnS f s e w B v l) : ∀ k, v.ownBlock = some k → B ≤ k ∧ k < w.heap.size := World.ownsRow.lt h
theorem OwnS.kept {row : Option Nat} (h : OwnS f s e w B v l) (hg : w.grownBy w' row) (hne : v.ownBlock = none ∨ v.ownBlock ≠ row) : OwnS f s e w' B v l := World.ownsRow.kept h hg hne
theorem OwnS.alloc (h : OwnS f s e w B v l) (o : Obj) : OwnS f s e (w.alloc o) B v l := World.ownsRow.alloc h o
theorem OwnS.lit0 (w : World) : OwnS f s e (w.alloc (.cells #[] e)) w.heap.size (.slice (some ⟨w.heap.size, 0, none⟩) 0 0) ([] : List α) :=
  World.ownsRow_lit w #[] 0 (Nat.le_refl _) (Nat.zero_le _) (by simp)
theorem OwnS.nil (w : World) (B : Nat) : OwnS f s e w B (.slice none 0 0) ([] : List α) := World.ownsRow_nil _ _ _ _

theorem OwnS.row {c : Nat} (h : OwnS f s e w B (.slice a n c) l) : w.ownsRow B e s (.slice a n c) n (l.flatMap f) := by
  have e' := h.len; unfold OwnS at h; rw [e'] at h; exact h

theorem OwnS.of_row (hf : ∀ x, (f x).length = s) (hs : 0 < s) (h : w.ownsRow B e s v n (l.flatMap f)) : OwnS f s e w B v l := by
  have e' : n = l.length := by
    have := h.1
    rw [flat_len f s hf] at this
    exact (Nat.eq_of_mul_eq_mul_right hs this).symm
  subst e'; exact h

theorem OwnS.frozen {g j c : Nat} (h : OwnS f s e w B (.slice (some ⟨g, 0, none⟩) n c) l) : w.frozen? ⟨g, j, none⟩ = false := World.ownsRow.frozenAt h.row j

/-- a store into field j of element k -/
theorem OwnS.set {g k j c : Nat} (hf : ∀ x, (f x).length = s) (hs : 0 < s) (h : OwnS f s e w B (.slice (some ⟨g, 0, none⟩) n c) l) (hk : k < n) (hj : j < s) (u : Value) (y : α) (hy : f y = (f (l[k]?.getD default)).set j u) :
    OwnS f s e (w.setCell ⟨g, k * s + j, none⟩ u) B (.slice (some ⟨g, 0, none⟩) n c) (l.set k y) ∧ w.grownBy (w.setCell ⟨g, k * s + j, none⟩ u) (some g) := by
  obtain ⟨h1, h2⟩ := World.ownsRow.stored h.row (k * s + j) u
  have hl := h.len
  refine ⟨OwnS.of_row hf hs (n := n) ?_, h2⟩
  rw [← flat_set f s hf l k j (by omega) y u hj (by rw [List.getElem?_eq_getElem (by omega)] at hy; exact hy)]
  exact h1

theorem SAt.cells (hf : ∀ x, (f x).length = s) (h1 : ∀ x, ∀ u ∈ f x, u.oneCell' = true) (h : SAt f s w a n l) : CellsAt w a n s (l.flatMap f) := by
  refine ⟨by rw [flat_len f s hf, h.1], ?_, ?_, ?_⟩
  · intro ha
    by_cases hn : n = 0
    · exact hn
    · obtain ⟨b, off, h1, _⟩ := h.2 0 (by omega)
      rw [ha] at h1; cases h1
  · intro ad ha j u hu
    have hlen : (l.flatMap f).length = n * s := by rw [flat_len f s hf, h.1]
    have hj : j < n * s := by
      have := (List.getElem?_eq_some_iff.1 hu).1
      omega
    have hs : 0 < s := by
      rcases Nat.eq_zero_or_pos s with e | e
      · subst e; simp at hj
      · exact e
    have hk : j / s < n := (Nat.div_lt_iff_lt_mul hs).2 hj
    have hm : j % s < s := Nat.mod_lt _ hs
    obtain ⟨b, off, h1, h2, h3⟩ := h.2 (j / s) hk
    rw [ha] at h1; cases h1
    have e1 : j / s * s + j % s = j := by rw [Nat.mul_comm]; exact Nat.div_add_mod j s
    have h4 := h3 (j % s) hm
    rw [Nat.add_assoc, e1] at h4
    rw [addr_add, h4]
    have h5 := flat_get f s hf l (j / s) (j % s) (by rw [h.1]; exact hk) hm
    rw [e1, hu] at h5
    have h6 : l[j / s]?.getD default = l[j / s]'(by rw [h.1]; exact hk) := by rw [List.getElem?_eq_getElem (by rw [h.1]; exact hk)]; rfl
    rw [h6]
    exact h5.symm
  · intro u hu
    obtain ⟨x, _, hx⟩ := List.mem_flatMap.1 hu
    exact h1 x u hx

theorem SAt.single (w : World) (x : α) (hf : ∀ x, (f x).length = s) : SAt f s (w.alloc (.cells (f x).toArray e)) (some ⟨w.heap.size, 0, none⟩) 1 [x] := by
  refine ⟨rfl, fun k hk => ⟨w.heap.size, 0, rfl, by simp, fun j hj => ?_⟩⟩
  obtain rfl : k = 0 := by omega
  rw [World.cell?_alloc_at _ _ _ _ rfl]; simp
end

/-- The cells of one struct, stored one by one. -/
def setCellsFrom (w : World) (b : Nat) (off : Nat) : List Value → World
  | [] => w
  | v :: r => setCellsFrom (w.setCell ⟨b, off, none⟩ v) b (off + 1) r
def setFrom (L : List Value) (off : Nat) : List Value → List Value
  | [] => L
  | v :: r => setFrom (L.set off v) (off + 1) r

theorem setFrom_mid : ∀ (vs P A R : List Value), A.length = vs.length → setFrom (P ++ (A ++ R)) P.length vs = P ++ (vs ++ R)
  | [], P, A, R, h => by
    have : A = [] := List.eq_nil_of_length_eq_zero h
    subst this; rfl
  | v :: r, P, [], R, h => by simp at h
  | v :: r, P, x :: A, R, h => by
    have e : (P ++ (x :: A ++ R)).set P.length v = (P ++ [v]) ++ (A ++ R) := by
      rw [List.set_append_right _ _ (Nat.le_refl _)]; simp
    have := setFrom_mid r (P ++ [v]) A R (by simpa using h)
    rw [List.length_append] at this
    rw [setFrom, e]
    rw [show P.length + 1 = P.length + [v].length from rfl, this]; simp

theorem flat_setAll {α : Type} (f : α → List Value) (s : Nat) (hf : ∀ x, (f x).length = s) (l : List α) (k : Nat) (hk : k < l.length) (y : α) : setFrom (l.flatMap f) (k * s) (f y) = (l.set k y).flatMap f := by
  have e : l = l.take k ++ (l[k] :: l.drop (k + 1)) := by rw [← List.drop_eq_getElem_cons hk, List.take_append_drop]
  have e2 : l.set k y = l.take k ++ (y :: l.drop (k + 1)) := by rw [List.set_eq_take_append_cons_drop, if_pos hk]
  have e3 : l.flatMap f = (l.take k).flatMap f ++ (f l[k] ++ (l.drop (k + 1)).flatMap f) := by
    conv => lhs; rw [e]
    rw [List.flatMap_append, List.flatMap_cons]
  have e4 : ((l.take k).flatMap f).length = k * s := by rw [flat_len f s hf, List.length_take, Nat.min_eq_left (by omega)]
  rw [e2, List.flatMap_append, List.flatMap_cons, e3, ← e4]
  exact setFrom_mid _ _ _ _ (by rw [hf, hf])

theorem madeFlat {α : Type} (f : α → List Value) (s : Nat) (hf : ∀ x, (f x).length = s) (hs : 0 < s) (x : α) (z : Array Value) (hz : z.toList = f x) (n : Nat) : (madeCells z (n * s)).toList = (List.replicate n x).flatMap f := by
  have hzs : z.size = s := by rw [← Array.length_toList, hz, hf]
  apply List.ext_getElem?
  intro i
  by_cases hi : i < n * s
  · have hk : i / s < n := (Nat.div_lt_iff_lt_mul hs).2 hi
    have hm : i % s < s := Nat.mod_lt _ hs
    have h5 := flat_get f s hf (List.replicate n x) (i / s) (i % s) (by simpa using hk) hm
    have e1 : i / s * s + i % s = i := by rw [Nat.mul_comm]; exact Nat.div_add_mod i s
    rw [e1, List.getElem_replicate] at h5
    rw [h5, ← hz]
    simp only [madeCells, Array.toList_map, List.getElem?_map, Array.getElem?_toList]
    rw [Array.getElem?_eq_getElem (by simpa using hi), Array.getElem?_eq_getElem (by rw [hzs]; exact hm)]
    simp only [Option.map_some, Array.getElem_range, hzs]
    rw [getElem!_pos _ _ (by rw [hzs]; exact hm)]
  · rw [List.getElem?_eq_none (by simp [size_madeCells]; omega), List.getElem?_eq_none (by rw [flat_len f s hf]; simp; omega)]

section
variable {α : Type} [Inhabited α] {f : α → List Value} {s : Nat} {e : TypeId}
theorem rowFrom {B g n c : Nat} : ∀ (vs : List Value) (w : World) (L : List Value) (off : Nat), w.ownsRow B e s (.slice (some ⟨g, 0, none⟩) n c) n L → (setCellsFrom w g off vs).ownsRow B e s (.slice (some ⟨g, 0, none⟩) n c) n (setFrom L off vs) ∧ w.grownBy (setCellsFrom w g off vs) (some g)
  | [], w, L, off, h => ⟨h, World.grownBy.refl _ _⟩
  | v :: r, w, L, off, h => by
    obtain ⟨h1, h2⟩ := World.ownsRow.stored h off v
    obtain ⟨h3, h4⟩ := rowFrom r _ _ (off + 1) h1
    exact ⟨h3, grownBy_trans h2 h4⟩

/-- a store of a whole struct at element k -/
theorem OwnS.setAll {w : World} {B g k n c : Nat} {l : List α} (hf : ∀ x, (f x).length = s) (hs : 0 < s) (h : OwnS f s e w B (.slice (some ⟨g, 0, none⟩) n c) l) (hk : k < n) (y : α) :
    OwnS f s e (setCellsFrom w g (k * s) (f y)) B (.slice (some ⟨g, 0, none⟩) n c) (l.set k y) ∧ w.grownBy (setCellsFrom w g (k * s) (f y)) (some g) := by
  obtain ⟨h1, h2⟩ := rowFrom (f y) w _ (k * s) h.row
  refine ⟨OwnS.of_row hf hs (n := n) ?_, h2⟩
  rw [← flat_setAll f s hf l k (by have := h.len; omega) y]
  exact h1

theorem takeS {l : List α} (k : Nat) (hk : k < l.length) : l.take (k + 1) = l.take k ++ [l[k]?.getD default] := by
  rw [List.take_add_one, List.getElem?_eq_getElem hk]; rfl
theorem take_setS {l l' : List α} {k n : Nat} (hl : l.length = n) (hl' : l'.length = n) (hk : k < n) (e : l'.take k = l.take k) : (l'.set k (l[k]?.getD default)).take (k + 1) = l.take (k + 1) := by
  rw [takeS (l := l) k (by omega), takeS (l := l'.set k _) k (by rw [List.length_set]; omega), List.take_set, List.getElem?_set_self (by omega), ← e, List.set_eq_of_length_le (by rw [List.length_take]; omega)]
  rfl
end

theorem wp_append_s {α : Type} [Inhabited α] {f : α → List Value} {s : Nat} {ops : Array Oper} {rest : List Oper} {o : Oper} {a : Act} {Q : Exit → Act → World → Prop} (w : World) (hgd : o.guard = none) (so x : Operand) (t : TypeId)
    (ho : o.op = .call { callee := .builtin .append, args := #[so, x], argTypes := #[t, t] })
    (e : TypeId) (i : TypeInfo) (z : Value) (bytes : Nat) (ht : Try.prog.underlying t = some (.slice e)) (hi : Try.prog.info? e = some i) (hz : i.zero = some z) (hsize : i.size = s) (hby : i.bytes = bytes) (hzs : z.cells.size = s) (hs0 : 0 < s)
    (hf : ∀ x, (f x).length = s) (hone : ∀ x, ∀ u ∈ f x, u.oneCell' = true)
    (B : Nat) (v : Value) (l : List α) (hs : a.eval so = v) (hown : OwnS f s e w B v l)
    (ax : Option Addr) (m c : Nat) (l2 : List α) (hx : a.eval x = .slice ax m c) (hat : SAt f s w ax m l2)
    (N : Nat) (hN : l.length + m = N) (hb : N ≤ 1099511627776) (hbb : bytes ≤ 64) (hB : B ≤ w.heap.size)
    (h : ∀ a' c' w', OwnS f s e w' B (.slice a' N c') (l ++ l2) → w.grownBy w' v.ownBlock → (Value.ownBlock (.slice a' N c') = v.ownBlock ∨ Value.ownBlock (.slice a' N c') = some w.heap.size) → wpList Try.prog ops Q rest (a.put o.dst (.slice a' N c')) w') : wpList Try.prog ops Q (o :: rest) a w := by
  have hmul : (l.length + m) * bytes ≤ 140737488355328 := by
    have : (l.length + m) * bytes ≤ 1099511627776 * 64 := Nat.mul_le_mul (by omega) hbb
    omega
  refine wp_append_cells w hgd so x t ho B e i z s bytes ht hi hz hsize hby hzs hs0 v l.length _ hs hown ax m c _ hx (hat.cells hf hone) (by unfold maxLen; omega) hmul hB ?_
  intro v' w' h1 h2 h3
  have ho : OwnS f s e w' B v' (l ++ l2) := OwnS.of_row hf hs0 (n := l.length + m) (by rw [List.flatMap_append]; exact h1)
  obtain ⟨a', c', rfl⟩ := ho.form
  have e' : (l ++ l2).length = N := by rw [List.length_append, hat.1]; exact hN
  rw [e'] at ho h3 ⊢
  exact h a' c' w' ho h2 h3

end Go.Proofs.Ytikjighlnpdgiaa

/-
  Pipes: four whole numbers.
-/
set_option linter.unusedVariables false
set_option linter.unusedSimpArgs false
namespace Go.Proofs.Ytikjighlnpdgiaa
open Go.RowKit

/-- Id, from, to, size. -/
abbrev Pip := Int × Int × Int × Int
def qf (p : Pip) : List Value := [.int .i64 p.1, .int .i64 p.2.1, .int .i64 p.2.2.1, .int .i64 p.2.2.2]
theorem qf_len (p : Pip) : (qf p).length = 4 := rfl
theorem qf_one (p : Pip) : ∀ u ∈ qf p, u.oneCell' = true := by intro u hu; simp [qf] at hu; rcases hu with rfl | rfl | rfl | rfl <;> rfl
abbrev QAt (w : World) (a : Option Addr) (n : Nat) (l : List Pip) : Prop := SAt qf 4 w a n l
abbrev OwnQ (w : World) (B : Nat) (v : Value) (l : List Pip) : Prop := OwnS qf 4 71 w B v l
def pp (l : List Pip) (k : Nat) : Pip := l[k]?.getD (0, 0, 0, 0)
theorem QAt.get {w : World} {a : Option Addr} {n : Nat} {l : List Pip} (h : QAt w a n l) (k : Nat) (hk : k < n) :
    ∃ b off, a = some ⟨b, off, none⟩ ∧ b < w.heap.size ∧ w.cell? ⟨b, off + k * 4, none⟩ = some (.int .i64 (pp l k).1) ∧ w.cell? ⟨b, off + k * 4 + 1, none⟩ = some (.int .i64 (pp l k).2.1) ∧
      w.cell? ⟨b, off + k * 4 + 2, none⟩ = some (.int .i64 (pp l k).2.2.1) ∧ w.cell? ⟨b, off + k * 4 + 3, none⟩ = some (.int .i64 (pp l k).2.2.2) := by
  obtain ⟨b, off, h1, h2, h3⟩ := h.2 k hk
  exact ⟨b, off, h1, h2, h3 0 (by decide), h3 1 (by decide), h3 2 (by decide), h3 3 (by decide)⟩

end Go.Proofs.Ytikjighlnpdgiaa

/-
  A drawn region whose operations read and whose calls may make memory, but hand back values that do not hang on the world: one walk in the order of the text.
-/
set_option linter.unusedVariables false
namespace Go.Proofs.Ytikjighlnpdgiaa
open Go.RowKit

theorem wp_region_calm {P : Program} {C : World → Prop} {id : Nat} {Q : Exit → Act → World → Prop} {a : Act} {w : World} {l : List Oper} (hm : P.follows .mixedOrders = true) (hB : Region.lexB .any l.toArray = true) (hC : C w.drew)
    (h : wpQuiet P l.toArray C (fun a' => ∀ w', C w' → Q .normal a' w') l a) : (Code.region id l.toArray true).wp P Q a w :=
  wp_region_quiet (C := C) hm hB hC (by simpa using h)

/-- at a call of a function: its contract -/
theorem calm_call {P : Program} {C : World → Prop} {w' : World} {f : FuncId} {args : Array Value} {v u : Value} (hC : C w') (keep : ∀ wy w5 : World, C wy → Below wy.heap.size wy w5 → C w5)
    (h : Calls P f args w' fun e w5 => e = .returned u ∧ Below w'.heap.size w' w5) (e : u = v) : Calls P f args w' fun e w'' => e = .returned v ∧ C w'' :=
  h.mono fun _ _ ⟨he, hb⟩ => ⟨by rw [he, e], keep _ _ hC hb⟩
theorem calm_same {P : Program} {C : World → Prop} {w' : World} {f : FuncId} {args : Array Value} {v u : Value} (hC : C w')
    (h : Calls P f args w' fun e w5 => e = .returned u ∧ w' = w5) (e : u = v) : Calls P f args w' fun e w'' => e = .returned v ∧ C w'' :=
  h.mono fun _ _ ⟨he, hb⟩ => ⟨by rw [he, e], hb ▸ hC⟩

end Go.Proofs.Ytikjighlnpdgiaa

/-
  Networks: which are valid.
-/
set_option linter.unusedVariables false
set_option linter.unusedSimpArgs false
namespace Go.Proofs.Ytikjighlnpdgiaa
open Go.RowKit

/-- A pipe is valid, in itself; and at its place. -/
def okPipe (N : Int) (p : Pip) : Bool := inR p.1 1 99 && inR p.2.1 1 N && inR p.2.2.1 1 N && decide (p.2.1 ≠ p.2.2.1) && inR p.2.2.2 1 9
def okQ (N : Int) (l : List Pip) (k : Nat) : Bool := okPipe N (pp l k) && (decide (k = 0) || decide ((pp l (k - 1)).1 < (pp l k).1))
def goodNet (N : Int) (l : List Pip) : Bool := inR N 1 8 && decide (l.length ≤ 10) && (List.range l.length).all (okQ N l)
theorem goodNet_bad {N : Int} {l : List Pip} {k : Nat} (hk : k < l.length) (h : okQ N l k = false) : goodNet N l = false := by
  cases e : goodNet N l
  · rfl
  · simp only [goodNet, Bool.and_eq_true, List.all_eq_true, List.mem_range] at e
    rw [e.2 k hk] at h
    cases h
theorem goodNet_all {N : Int} {l : List Pip} (h1 : inR N 1 8 = true) (h2 : l.length ≤ 10) (h3 : ∀ k, k < l.length → okQ N l k = true) : goodNet N l = true := by
  simp only [goodNet, Bool.and_eq_true, List.all_eq_true, List.mem_range, decide_eq_true_eq]
  exact ⟨⟨h1, h2⟩, h3⟩
theorem goodNet_get {N : Int} {l : List Pip} (h : goodNet N l = true) : (1 ≤ N ∧ N ≤ 8) ∧ l.length ≤ 10 ∧ ∀ k, k < l.length → okQ N l k = true := by
  simp only [goodNet, Bool.and_eq_true, List.all_eq_true, List.mem_range, decide_eq_true_eq] at h
  exact ⟨inR_iff.1 h.1.1, h.1.2, h.2⟩
theorem okPipe_iff {N : Int} {p : Pip} : okPipe N p = true ↔ (1 ≤ p.1 ∧ p.1 ≤ 99) ∧ (1 ≤ p.2.1 ∧ p.2.1 ≤ N) ∧ (1 ≤ p.2.2.1 ∧ p.2.2.1 ≤ N) ∧ p.2.1 ≠ p.2.2.1 ∧ (1 ≤ p.2.2.2 ∧ p.2.2.2 ≤ 9) := by
  simp only [okPipe, Bool.and_eq_true, inR_iff, decide_eq_true_eq, and_assoc]
theorem goodNet_pipe {N : Int} {l : List Pip} (h : goodNet N l = true) {k : Nat} (hk : k < l.length) : (1 ≤ (pp l k).1 ∧ (pp l k).1 ≤ 99) ∧ (1 ≤ (pp l k).2.1 ∧ (pp l k).2.1 ≤ N) ∧ (1 ≤ (pp l k).2.2.1 ∧ (pp l k).2.2.1 ≤ N) ∧ (pp l k).2.1 ≠ (pp l k).2.2.1 ∧ (1 ≤ (pp l k).2.2.2 ∧ (pp l k).2.2.2 ≤ 9) := by
  have := (goodNet_get h).2.2 k hk
  simp only [okQ, Bool.and_eq_true] at this
  exact okPipe_iff.1 this.1
theorem all_nextN {p : Nat → Bool} {k : Nat} (h : ∀ j, j < k → p j = true) (hk : p k = true) : ∀ j, j < k + 1 → p j = true := fun j hj => by
  by_cases e : j = k
  · subst e; exact hk
  · exact h j (by omega)

theorem i_has (N x : Int) (a : Option Addr) (n c : Nat) (w : World) : Calls Try.prog 41 #[.agg #[.int .i64 N, .slice a n c], .int .i64 x] w fun e w' => e = .returned (.bool (inR x 1 N)) ∧ Below w.heap.size w w' := by
  go_enter Try.func41, Try.ntmps41
  go_wp2_with fail
  refine (i_inside _ _ _ _).mono ?_
  rintro e _ ⟨rfl, rfl⟩
  go_wp2
  go_ret
  exact ⟨rfl, by go_grown⟩

theorem s_l2Pipe (N p1 p2 p3 p4 : Int) (w : World) : Calls Try.prog 96 #[.int .i64 N, .agg #[.int .i64 p1, .int .i64 p2, .int .i64 p3, .int .i64 p4]] w fun e w' => e = .returned (.bool (okPipe N (p1, p2, p3, p4))) ∧ Below w.heap.size w w' := by
  cases c1 : inR p1 1 99
  · skip
    have E := hid (show false = okPipe N (p1, p2, p3, p4) by simp [okPipe, *])
    have H1 := hid c1
    clear c1
    go_enter Try.func96, Try.ntmps96
    go_wp2_with fail
    refine (s_l1In _ _ _ _).mono ?_
    rintro e _ ⟨rfl, rfl⟩
    rw [H1.out]
    go_wp2
    go_ret
    exact ⟨ret_bool E.out, by go_grown⟩
  · cases c2 : inR p2 1 N
    · skip
      have E := hid (show false = okPipe N (p1, p2, p3, p4) by simp [okPipe, *])
      have H1 := hid c1
      have H2 := hid c2
      clear c1 c2
      go_enter Try.func96, Try.ntmps96
      go_wp2_with fail
      refine (s_l1In _ _ _ _).mono ?_
      rintro e _ ⟨rfl, rfl⟩
      rw [H1.out]
      go_wp2_with fail
      refine (s_l1In _ _ _ _).mono ?_
      rintro e _ ⟨rfl, rfl⟩
      rw [H2.out]
      go_wp2
      go_ret
      exact ⟨ret_bool E.out, by go_grown⟩
    · cases c3 : inR p3 1 N
      · skip
        have E := hid (show false = okPipe N (p1, p2, p3, p4) by simp [okPipe, *])
        have H1 := hid c1
        have H2 := hid c2
        have H3 := hid c3
        clear c1 c2 c3
        go_enter Try.func96, Try.ntmps96
        go_wp2_with fail
        refine (s_l1In _ _ _ _).mono ?_
        rintro e _ ⟨rfl, rfl⟩
        rw [H1.out]
        go_wp2_with fail
        refine (s_l1In _ _ _ _).mono ?_
        rintro e _ ⟨rfl, rfl⟩
        rw [H2.out]
        go_wp2_with fail
        refine (s_l1In _ _ _ _).mono ?_
        rintro e _ ⟨rfl, rfl⟩
        rw [H3.out]
        go_wp2
        go_ret
        exact ⟨ret_bool E.out, by go_grown⟩
      · by_cases c4 : p2 = p3
        · subst c4
          have E := hid (show false = okPipe N (p1, p2, p2, p4) by simp [okPipe, *])
          have H1 := hid c1
          have H2 := hid c2
          have H3 := hid c3
          clear c1 c2 c3
          go_enter Try.func96, Try.ntmps96
          go_wp2_with fail
          refine (s_l1In _ _ _ _).mono ?_
          rintro e _ ⟨rfl, rfl⟩
          rw [H1.out]
          go_wp2_with fail
          refine (s_l1In _ _ _ _).mono ?_
          rintro e _ ⟨rfl, rfl⟩
          rw [H2.out]
          go_wp2_with fail
          refine (s_l1In _ _ _ _).mono ?_
          rintro e _ ⟨rfl, rfl⟩
          rw [H3.out]
          go_wp2
          go_ret
          exact ⟨ret_bool E.out, by go_grown⟩
        · cases c5 : inR p4 1 9
          · skip
            have E := hid (show false = okPipe N (p1, p2, p3, p4) by simp [okPipe, *])
            have H1 := hid c1
            have H2 := hid c2
            have H3 := hid c3
            have H5 := hid c5
            clear c1 c2 c3 c5
            go_enter Try.func96, Try.ntmps96
            go_wp2_with fail
            refine (s_l1In _ _ _ _).mono ?_
            rintro e _ ⟨rfl, rfl⟩
            rw [H1.out]
            go_wp2_with fail
            refine (s_l1In _ _ _ _).mono ?_
            rintro e _ ⟨rfl, rfl⟩
            rw [H2.out]
            go_wp2_with fail
            refine (s_l1In _ _ _ _).mono ?_
            rintro e _ ⟨rfl, rfl⟩
            rw [H3.out]
            go_wp2_with fail
            refine (s_l1In _ _ _ _).mono ?_
            rintro e _ ⟨rfl, rfl⟩
            rw [H5.out]
            go_wp2
            go_ret
            exact ⟨ret_bool E.out, by go_grown⟩
          · skip
            have E := hid (show true = okPipe N (p1, p2, p3, p4) by simp [okPipe, *])
            have H1 := hid c1
            have H2 := hid c2
            have H3 := hid c3
            have H5 := hid c5
            clear c1 c2 c3 c5
            go_enter Try.func96, Try.ntmps96
            go_wp2_with fail
            refine (s_l1In _ _ _ _).mono ?_
            rintro e _ ⟨rfl, rfl⟩
            rw [H1.out]
            go_wp2_with fail
            refine (s_l1In _ _ _ _).mono ?_
            rintro e _ ⟨rfl, rfl⟩
            rw [H2.out]
            go_wp2_with fail
            refine (s_l1In _ _ _ _).mono ?_
            rintro e _ ⟨rfl, rfl⟩
            rw [H3.out]
            go_wp2_with fail
            refine (s_l1In _ _ _ _).mono ?_
            rintro e _ ⟨rfl, rfl⟩
            rw [H5.out]
            go_wp2
            go_ret
            exact ⟨ret_bool (by rw [← E.out]; simpa using c4), by go_grown⟩

abbrev NetI (w wr : World) (N : Int) (b0 off0 n c k : Nat) (l : List Pip) (w' : World) : Prop := Below w.heap.size w w' ∧ w'.cell? ⟨w.heap.size, 0, none⟩ = some (.int .i64 N) ∧ w'.cell? ⟨w.heap.size, 1, none⟩ = some (.slice (some ⟨b0, off0, none⟩) n c) ∧ w'.cell? ⟨wr.heap.size, 0, none⟩ = some (.int .i64 (pp l k).1) ∧ w'.cell? ⟨wr.heap.size, 1, none⟩ = some (.int .i64 (pp l k).2.1) ∧ w'.cell? ⟨wr.heap.size, 2, none⟩ = some (.int .i64 (pp l k).2.2.1) ∧ w'.cell? ⟨wr.heap.size, 3, none⟩ = some (.int .i64 (pp l k).2.2.2) ∧ w'.cell? ⟨b0, off0 + (k - 1) * 4, none⟩ = some (.int .i64 (pp l (k - 1)).1)
theorem NetI.keep (w wr : World) (N : Int) (b0 off0 n c k : Nat) (l : List Pip) (wy w5 : World) (h : NetI w wr N b0 off0 n c k l wy) (hb : Below wy.heap.size wy w5) : NetI w wr N b0 off0 n c k l w5 :=
  let ⟨h0, x0, x1, x2, x3, x4, x5, x6⟩ := h
  ⟨bstep h0 hb, (hb.cell (World.block_lt_of_cell? wy _ x0)).trans x0, (hb.cell (World.block_lt_of_cell? wy _ x1)).trans x1, (hb.cell (World.block_lt_of_cell? wy _ x2)).trans x2, (hb.cell (World.block_lt_of_cell? wy _ x3)).trans x3, (hb.cell (World.block_lt_of_cell? wy _ x4)).trans x4, (hb.cell (World.block_lt_of_cell? wy _ x5)).trans x5, (hb.cell (World.block_lt_of_cell? wy _ x6)).trans x6⟩

abbrev NetS (w : World) (N : Int) (b0 off0 n c k : Nat) (l : List Pip) (w' : World) : Prop := Below w.heap.size w w' ∧ w'.cell? ⟨w.heap.size, 0, none⟩ = some (.int .i64 N) ∧ w'.cell? ⟨w.heap.size, 1, none⟩ = some (.slice (some ⟨b0, off0, none⟩) n c) ∧ w'.cell? ⟨b0, off0 + k * 4, none⟩ = some (.int .i64 (pp l k).1) ∧ w'.cell? ⟨b0, off0 + k * 4 + 1, none⟩ = some (.int .i64 (pp l k).2.1) ∧ w'.cell? ⟨b0, off0 + k * 4 + 2, none⟩ = some (.int .i64 (pp l k).2.2.1) ∧ w'.cell? ⟨b0, off0 + k * 4 + 3, none⟩ = some (.int .i64 (pp l k).2.2.2) ∧ w'.cell? ⟨b0, off0 + (k - 1) * 4, none⟩ = some (.int .i64 (pp l (k - 1)).1)
theorem NetS.keep (w : World) (N : Int) (b0 off0 n c k : Nat) (l : List Pip) (wy w5 : World) (h : NetS w N b0 off0 n c k l wy) (hb : Below wy.heap.size wy w5) : NetS w N b0 off0 n c k l w5 :=
  let ⟨h0, x0, x1, x2, x3, x4, x5, x6⟩ := h
  ⟨bstep h0 hb, (hb.cell (World.block_lt_of_cell? wy _ x0)).trans x0, (hb.cell (World.block_lt_of_cell? wy _ x1)).trans x1, (hb.cell (World.block_lt_of_cell? wy _ x2)).trans x2, (hb.cell (World.block_lt_of_cell? wy _ x3)).trans x3, (hb.cell (World.block_lt_of_cell? wy _ x4)).trans x4, (hb.cell (World.block_lt_of_cell? wy _ x5)).trans x5, (hb.cell (World.block_lt_of_cell? wy _ x6)).trans x6⟩

end Go.Proofs.Ytikjighlnpdgiaa

/-
  Networks: how far nodes are from one another, in plain lists.
-/
set_option linter.unusedVariables false
set_option linter.unusedSimpArgs false
namespace Go.Proofs.Ytikjighlnpdgiaa
open Go.RowKit

/-- The end of a pipe that is not a node, 0 if the node is none of its ends. -/
def oth (p : Pip) (v : Int) : Int := if v = p.2.1 then p.2.2.1 else if v = p.2.2.1 then p.2.1 else 0
/-- A pipe, not the one left out, leads from a node to another one. -/
def Edge (l : List Pip) (wo u v : Int) : Prop := ∃ k, k < l.length ∧ (pp l k).1 ≠ wo ∧ oth (pp l k) u = v ∧ 0 < v

theorem okQ_ends {N : Int} {l : List Pip} {k : Nat} (hg : goodNet N l = true) (hk : k < l.length) {u v : Int} (h : oth (pp l k) u = v) (hv : 0 < v) : (1 ≤ u ∧ u ≤ N) ∧ (1 ≤ v ∧ v ≤ N) ∧ u ≠ v ∧ oth (pp l k) v = u := by
  obtain ⟨-, h2, h3, h4, -⟩ := goodNet_pipe hg hk
  unfold oth at h ⊢
  split at h
  · rename_i e
    subst e h
    refine ⟨h2, h3, h4, ?_⟩
    rw [if_neg (fun e => h4 e.symm), if_pos rfl]
  · split at h
    · rename_i e1 e2
      subst e2 h
      refine ⟨h3, h2, fun e => h4 e.symm, ?_⟩
      rw [if_pos rfl]
    · omega
theorem Edge.symm {N : Int} {l : List Pip} {wo u v : Int} (hg : goodNet N l = true) (h : Edge l wo u v) : Edge l wo v u := by
  obtain ⟨k, hk, h1, h2, h3⟩ := h
  obtain ⟨a, b, c, d⟩ := okQ_ends hg hk h2 h3
  exact ⟨k, hk, h1, d, by omega⟩
theorem Edge.ends {N : Int} {l : List Pip} {wo u v : Int} (hg : goodNet N l = true) (h : Edge l wo u v) : (1 ≤ u ∧ u ≤ N) ∧ (1 ≤ v ∧ v ≤ N) ∧ u ≠ v := by
  obtain ⟨k, hk, h1, h2, h3⟩ := h
  obtain ⟨a, b, c, d⟩ := okQ_ends hg hk h2 h3
  exact ⟨a, b, c⟩

/-- A function gives how far each node is from one, -1 where there is no way. -/
structure IsDist (N : Int) (l : List Pip) (wo s : Int) (f : Int → Int) : Prop where
  low : ∀ v, 1 ≤ v → v ≤ N → -1 ≤ f v
  self : f s = 0
  only : ∀ v, 1 ≤ v → v ≤ N → f v = 0 → v = s
  back : ∀ v, 1 ≤ v → v ≤ N → 0 < f v → ∃ u, Edge l wo u v ∧ f u = f v - 1
  step : ∀ u v, Edge l wo u v → 0 ≤ f u → 0 ≤ f v ∧ f v ≤ f u + 1

theorem IsDist.le {N : Int} {l : List Pip} {wo s : Int} {f g : Int → Int} (hgn : goodNet N l = true) (hf : IsDist N l wo s f) (hg : IsDist N l wo s g) :
    ∀ (d : Nat) (v : Int), 1 ≤ v → v ≤ N → f v = d → 0 ≤ g v ∧ g v ≤ d
  | 0, v, h1, h2, h => by
    have := hf.only v h1 h2 (by simpa using h)
    subst this
    have := hg.self
    omega
  | d + 1, v, h1, h2, h => by
    obtain ⟨u, he, hu⟩ := hf.back v h1 h2 (by omega)
    obtain ⟨⟨u1, u2⟩, -, -⟩ := he.ends hgn
    have ih := IsDist.le hgn hf hg d u u1 u2 (by omega)
    have := hg.step u v he ih.1
    omega
theorem IsDist.unique {N : Int} {l : List Pip} {wo s : Int} {f g : Int → Int} (hgn : goodNet N l = true) (hf : IsDist N l wo s f) (hg : IsDist N l wo s g) (v : Int) (h1 : 1 ≤ v) (h2 : v ≤ N) : f v = g v := by
  have a := hf.low v h1 h2
  have b := hg.low v h1 h2
  by_cases hfv : 0 ≤ f v
  · have c := IsDist.le hgn hf hg (f v).toNat v h1 h2 (by omega)
    have d := IsDist.le hgn hg hf (g v).toNat v h1 h2 (by omega)
    omega
  · by_cases hgv : 0 ≤ g v
    · have d := IsDist.le hgn hg hf (g v).toNat v h1 h2 (by omega)
      omega
    · omega

/-- What is closed and holds the node holds all that can be reached. -/
theorem IsDist.reach {N : Int} {l : List Pip} {wo s : Int} {f : Int → Int} (hgn : goodNet N l = true) (hf : IsDist N l wo s f) {R : Int → Prop} (hs : R s) (hc : ∀ u v, Edge l wo u v → R u → R v) :
    ∀ (d : Nat) (v : Int), 1 ≤ v → v ≤ N → f v = d → R v
  | 0, v, h1, h2, h => by
    have := hf.only v h1 h2 (by simpa using h)
    subst this
    exact hs
  | d + 1, v, h1, h2, h => by
    obtain ⟨u, he, hu⟩ := hf.back v h1 h2 (by omega)
    obtain ⟨⟨u1, u2⟩, -, -⟩ := he.ends hgn
    exact hc u v he (IsDist.reach hgn hf hs hc d u u1 u2 (by omega))

/-- A way of some length. -/
def Way (l : List Pip) (wo s : Int) : Nat → Int → Prop
  | 0, v => v = s
  | k + 1, v => ∃ u, Way l wo s k u ∧ Edge l wo u v
theorem least {p : Nat → Prop} (h : ∃ n, p n) : ∃ n, p n ∧ ∀ m, m < n → ¬ p m := by
  obtain ⟨n, hn⟩ := h
  induction n using Nat.strongRecOn with
  | _ n ih =>
    by_cases hq : ∃ m, m < n ∧ p m
    · obtain ⟨m, hm, hp⟩ := hq
      exact ih m hm hp
    · exact ⟨n, hn, fun m hm hp => hq ⟨m, hm, hp⟩⟩
/-- How far a node is. -/
noncomputable def far (l : List Pip) (wo s v : Int) : Int := by
  classical
  exact if h : ∃ n, Way l wo s n v then ((Classical.choose (least h) : Nat) : Int) else -1
theorem far_way {l : List Pip} {wo s v : Int} {n : Nat} (h : Way l wo s n v) : ∃ m : Nat, m ≤ n ∧ far l wo s v = m ∧ Way l wo s m v ∧ ∀ k, k < m → ¬ Way l wo s k v := by
  have hx : ∃ n, Way l wo s n v := ⟨n, h⟩
  obtain ⟨a, b⟩ := Classical.choose_spec (least hx)
  refine ⟨Classical.choose (least hx), ?_, ?_, a, b⟩
  · apply Classical.byContradiction
    intro hn
    exact b n (by omega) h
  · unfold far
    rw [dif_pos hx]
theorem far_none {l : List Pip} {wo s v : Int} (h : ¬ ∃ n, Way l wo s n v) : far l wo s v = -1 := by
  unfold far
  rw [dif_neg h]
theorem far_some {l : List Pip} {wo s v : Int} (h : 0 ≤ far l wo s v) : ∃ m : Nat, far l wo s v = m ∧ Way l wo s m v ∧ ∀ k, k < m → ¬ Way l wo s k v := by
  by_cases hx : ∃ n, Way l wo s n v
  · obtain ⟨n, hn⟩ := hx
    obtain ⟨m, -, a, b, c⟩ := far_way hn
    exact ⟨m, a, b, c⟩
  · rw [far_none hx] at h
    omega
theorem far_is {N : Int} {l : List Pip} {wo s : Int} (hgn : goodNet N l = true) : IsDist N l wo s (far l wo s) where
  low v _ _ := by
    by_cases hx : ∃ n, Way l wo s n v
    · obtain ⟨n, hn⟩ := hx
      obtain ⟨m, -, a, -⟩ := far_way hn
      omega
    · rw [far_none hx]; omega
  self := by
    obtain ⟨m, hm, a, -⟩ := far_way (l := l) (wo := wo) (s := s) (v := s) (n := 0) rfl
    omega
  only v _ _ h := by
    obtain ⟨m, a, b, -⟩ := far_some (l := l) (wo := wo) (s := s) (v := v) (by omega)
    obtain rfl : m = 0 := by omega
    exact b
  back v _ _ h := by
    obtain ⟨m, a, b, c⟩ := far_some (l := l) (wo := wo) (s := s) (v := v) (by omega)
    match m, b with
    | 0, _ => omega
    | m + 1, ⟨u, hu, he⟩ =>
      refine ⟨u, he, ?_⟩
      obtain ⟨k, hk, ak, bk, ck⟩ := far_way hu
      have : k = m := by
        apply Classical.byContradiction
        intro hn
        exact c (k + 1) (by omega) ⟨u, bk, he⟩
      omega
  step u v he h := by
    obtain ⟨m, a, b, c⟩ := far_some h
    obtain ⟨k, hk, ak, -⟩ := far_way (n := m + 1) (l := l) (wo := wo) (s := s) (v := v) ⟨u, b, he⟩
    omega

end Go.Proofs.Ytikjighlnpdgiaa

/-
  Networks: the search that labels nodes, round by round, in plain lists.
-/
set_option linter.unusedVariables false
set_option linter.unusedSimpArgs false
namespace Go.Proofs.Ytikjighlnpdgiaa
open Go.RowKit

/-- A node's label. -/
def lab (f : List Int) (v : Int) : Int := f[v.toNat]?.getD 0
theorem lab_set {f : List Int} {N x v y : Int} (hl : f.length = N.toNat + 1) (hx : 0 ≤ x ∧ x ≤ N) (hv : 0 ≤ v) : lab (f.set x.toNat y) v = if v = x then y else lab f v := by
  unfold lab
  by_cases e : v = x
  · subst e
    rw [List.getElem?_set_self (by omega), if_pos rfl]
    rfl
  · rw [List.getElem?_set_ne (by omega), if_neg e]
/-- The first one that waits. -/
def hd (q : List Int) : Int := q[0]?.getD 0

/-- While the first waiting node is looked at: some pipes have been gone through. -/
structure Mid (N : Int) (l : List Pip) (wo s : Int) (f q : List Int) (k : Nat) : Prop where
  len : f.length = N.toNat + 1
  zero : lab f 0 = -1
  low : ∀ v, 1 ≤ v → v ≤ N → -1 ≤ lab f v
  self : lab f s = 0
  only : ∀ v, 1 ≤ v → v ≤ N → lab f v = 0 → v = s
  back : ∀ v, 1 ≤ v → v ≤ N → 0 < lab f v → ∃ u, Edge l wo u v ∧ lab f u = lab f v - 1
  ne : 0 < q.length
  qin : ∀ x ∈ q, (1 ≤ x ∧ x ≤ N) ∧ 0 ≤ lab f x
  sorted : ∀ i j, i ≤ j → j < q.length → lab f (q[i]?.getD 0) ≤ lab f (q[j]?.getD 0)
  top : ∀ v, 1 ≤ v → v ≤ N → lab f v ≤ lab f (hd q) + 1
  done : ∀ v, 1 ≤ v → v ≤ N → 0 ≤ lab f v → v ∉ q → (∀ u, Edge l wo v u → 0 ≤ lab f u ∧ lab f u ≤ lab f v + 1) ∧ lab f v ≤ lab f (hd q)
  part : ∀ j, j < k → (pp l j).1 ≠ wo → 0 < oth (pp l j) (hd q) → 0 ≤ lab f (oth (pp l j) (hd q))

theorem Mid.head {N : Int} {l : List Pip} {wo s : Int} {f q : List Int} {k : Nat} (h : Mid N l wo s f q k) : hd q ∈ q ∧ (1 ≤ hd q ∧ hd q ≤ N) ∧ 0 ≤ lab f (hd q) := by
  have hm : hd q ∈ q := by
    unfold hd
    rw [List.getElem?_eq_getElem h.ne]
    exact List.getElem_mem h.ne
  exact ⟨hm, h.qin _ hm⟩
theorem Mid.no {N : Int} {l : List Pip} {wo s : Int} {f q : List Int} {k : Nat} (h : Mid N l wo s f q k) (hn : (pp l k).1 ≠ wo → 0 < oth (pp l k) (hd q) → 0 ≤ lab f (oth (pp l k) (hd q))) : Mid N l wo s f q (k + 1) :=
  ⟨h.len, h.zero, h.low, h.self, h.only, h.back, h.ne, h.qin, h.sorted, h.top, h.done, fun j hj => by
    by_cases e : j = k
    · subst e; exact hn
    · exact h.part j (by omega)⟩
theorem hd_app (q : List Int) (x : Int) (h : 0 < q.length) : hd (q ++ [x]) = hd q := by
  unfold hd
  rw [List.getElem?_append_left h]
theorem Mid.yes {N : Int} {l : List Pip} {wo s : Int} {f q : List Int} {k : Nat} {tv : Int} (hg : goodNet N l = true) (h : Mid N l wo s f q k) (hk : k < l.length) (hw : (pp l k).1 ≠ wo) (ht : oth (pp l k) (hd q) = tv) (hp : 0 < tv) (hl : lab f tv < 0) :
    Mid N l wo s (f.set tv.toNat (lab f (hd q) + 1)) (q ++ [tv]) (k + 1) := by
  obtain ⟨hm, hh, hh0⟩ := h.head
  have he : Edge l wo (hd q) tv := ⟨k, hk, hw, ht, hp⟩
  obtain ⟨-, ⟨t1, t2⟩, hne⟩ := he.ends hg
  have L : ∀ v, 0 ≤ v → lab (f.set tv.toNat (lab f (hd q) + 1)) v = if v = tv then lab f (hd q) + 1 else lab f v := fun v hv => lab_set h.len ⟨by omega, t2⟩ hv
  have Lh : lab (f.set tv.toNat (lab f (hd q) + 1)) (hd q) = lab f (hd q) := by rw [L _ (by omega), if_neg hne]
  have hqt : ∀ x ∈ q, x ≠ tv := fun x hx e => by have := (h.qin x hx).2; rw [e] at this; omega
  have hst : s ≠ tv := fun e => by have := h.self; rw [e] at this; omega
  have hs0 : 0 ≤ s ∨ s < 0 := by omega
  have Lq : ∀ i, i < q.length → lab (f.set tv.toNat (lab f (hd q) + 1)) (q[i]?.getD 0) = lab f (q[i]?.getD 0) := fun i hi => by
    have hmem : q[i]?.getD 0 ∈ q := by rw [List.getElem?_eq_getElem hi]; exact List.getElem_mem hi
    rw [L _ (by have := (h.qin _ hmem).1; omega), if_neg (hqt _ hmem)]
  refine ⟨by simp [h.len], ?_, ?_, ?_, ?_, ?_, by simp, ?_, ?_, ?_, ?_, ?_⟩
  · rw [L 0 (by omega), if_neg (by omega)]; exact h.zero
  · intro v h1 h2
    rw [L v (by omega)]
    split
    · omega
    · exact h.low v h1 h2
  · unfold lab at *
    rw [List.getElem?_set_ne]
    · exact h.self
    · intro e
      have h0 := h.self
      have hl' := hl
      simp only [lab] at h0
      rw [← e] at h0
      omega
  · intro v h1 h2 h3
    rw [L v (by omega)] at h3
    split at h3
    · omega
    · exact h.only v h1 h2 h3
  · intro v h1 h2 h3
    rw [L v (by omega)] at h3 ⊢
    split at h3
    · rename_i e
      subst e
      rw [if_pos rfl]
      exact ⟨hd q, he, by rw [Lh]; omega⟩
    · rename_i e
      rw [if_neg e]
      obtain ⟨u, hu, hu2⟩ := h.back v h1 h2 h3
      obtain ⟨⟨u1, u2⟩, -, -⟩ := hu.ends hg
      refine ⟨u, hu, ?_⟩
      rw [L u (by omega)]
      split
      · rename_i e2
        rw [e2] at hu2
        omega
      · exact hu2
  · intro x hx
    rw [List.mem_append, List.mem_singleton] at hx
    rcases hx with hx | rfl
    · refine ⟨(h.qin x hx).1, ?_⟩
      rw [L x (by have := (h.qin x hx).1; omega), if_neg (hqt x hx)]
      exact (h.qin x hx).2
    · refine ⟨⟨t1, t2⟩, ?_⟩
      rw [L _ (by omega), if_pos rfl]
      omega
  · intro i j hij hj
    rw [List.length_append] at hj
    simp only [List.length_singleton] at hj
    by_cases hjq : j < q.length
    · rw [List.getElem?_append_left hjq, List.getElem?_append_left (by omega), Lq i (by omega), Lq j hjq]
      exact h.sorted i j hij hjq
    · obtain rfl : j = q.length := by omega
      have ej : (q ++ [tv])[q.length]?.getD 0 = tv := by simp
      rw [ej, L tv (by omega), if_pos rfl]
      by_cases hiq : i < q.length
      · rw [List.getElem?_append_left hiq, Lq i hiq]
        have hmem : q[i]?.getD 0 ∈ q := by rw [List.getElem?_eq_getElem hiq]; exact List.getElem_mem hiq
        have := (h.qin _ hmem).1
        exact h.top _ this.1 this.2
      · obtain rfl : i = q.length := by omega
        rw [ej, L tv (by omega), if_pos rfl]
        exact Int.le_refl _
  · intro v h1 h2
    rw [hd_app _ _ h.ne, Lh, L v (by omega)]
    split
    · omega
    · exact h.top v h1 h2
  · intro v h1 h2 h3 h4
    rw [List.mem_append, List.mem_singleton, not_or] at h4
    rw [L v (by omega), if_neg h4.2] at h3
    obtain ⟨a, b⟩ := h.done v h1 h2 h3 h4.1
    rw [hd_app _ _ h.ne, Lh, L v (by omega), if_neg h4.2]
    refine ⟨fun u hu => ?_, b⟩
    obtain ⟨-, ⟨u1, u2⟩, -⟩ := hu.ends hg
    have := a u hu
    rw [L u (by omega)]
    split
    · rename_i e; rw [e] at this; omega
    · exact this
  · intro j hj hwj hoj
    rw [hd_app _ _ h.ne] at hoj ⊢
    rw [L _ (by omega)]
    split
    · omega
    · rename_i e
      by_cases ejk : j = k
      · subst ejk; exact absurd ht e
      · exact h.part j (by omega) hwj hoj

/-- All pipes have been gone through: the first node is done. -/
theorem Mid.step {N : Int} {l : List Pip} {wo s : Int} {f q : List Int} (hg : goodNet N l = true) (h : Mid N l wo s f q l.length) (u : Int) (hu : Edge l wo (hd q) u) : 0 ≤ lab f u ∧ lab f u ≤ lab f (hd q) + 1 := by
  obtain ⟨-, ⟨u1, u2⟩, -⟩ := hu.ends hg
  have h2 := h.top u u1 u2
  obtain ⟨k, hk, hw, ho, hp⟩ := hu
  have := h.part k hk hw (by omega)
  rw [ho] at this
  exact ⟨this, h2⟩
theorem Mid.next {N : Int} {l : List Pip} {wo s x : Int} {f q : List Int} (hg : goodNet N l = true) (h : Mid N l wo s f (x :: q) l.length) (hq : 0 < q.length) : Mid N l wo s f q 0 := by
  have hx : hd (x :: q) = x := rfl
  have hmem : hd q ∈ q := by unfold hd; rw [List.getElem?_eq_getElem hq]; exact List.getElem_mem hq
  have hle : lab f x ≤ lab f (hd q) := by
    have := h.sorted 0 1 (by omega) (by simp; omega)
    simpa [hd] using this
  refine ⟨h.len, h.zero, h.low, h.self, h.only, h.back, hq, fun y hy => h.qin y (by simp [hy]), ?_, ?_, ?_, fun j hj => absurd hj (by omega)⟩
  · intro i j hij hj
    have := h.sorted (i + 1) (j + 1) (by omega) (by simp; omega)
    simpa using this
  · intro v h1 h2
    have := h.top v h1 h2
    rw [hx] at this
    omega
  · intro v h1 h2 h3 h4
    by_cases e : v = x
    · subst e
      refine ⟨fun u hu => ?_, hle⟩
      have := h.step hg u (by rw [hx]; exact hu)
      rwa [hx] at this
    · obtain ⟨a, b⟩ := h.done v h1 h2 h3 (by simp [e, h4])
      rw [hx] at b
      exact ⟨a, by omega⟩
theorem Mid.last {N : Int} {l : List Pip} {wo s x : Int} {f : List Int} (hg : goodNet N l = true) (h : Mid N l wo s f [x] l.length) : IsDist N l wo s (lab f) := by
  have hx : hd [x] = x := rfl
  refine ⟨h.low, h.self, h.only, h.back, fun u v he h0 => ?_⟩
  obtain ⟨⟨u1, u2⟩, -, -⟩ := he.ends hg
  by_cases e : u = x
  · subst e
    have := h.step hg v (by rw [hx]; exact he)
    rwa [hx] at this
  · exact (h.done u u1 u2 h0 (by simp [e])).1 v he
theorem Mid.start {N : Int} {l : List Pip} {wo s : Int} {f : List Int} (hs : 1 ≤ s ∧ s ≤ N) (hl : f.length = N.toNat + 1) (hf : ∀ v, 0 ≤ v → v ≤ N → v ≠ s → lab f v = -1) (h0 : lab f s = 0) : Mid N l wo s f [s] 0 := by
  have hx : hd [s] = s := rfl
  refine ⟨hl, hf 0 (by omega) (by omega) (by omega), ?_, h0, ?_, ?_, by simp, ?_, ?_, ?_, ?_, fun j hj => absurd hj (by omega)⟩
  · intro v h1 h2
    by_cases e : v = s
    · subst e; omega
    · rw [hf v (by omega) h2 e]; omega
  · intro v h1 h2 h3
    by_cases e : v = s
    · exact e
    · rw [hf v (by omega) h2 e] at h3; omega
  · intro v h1 h2 h3
    by_cases e : v = s
    · subst e; omega
    · rw [hf v (by omega) h2 e] at h3; omega
  · intro x hx
    rw [List.mem_singleton] at hx
    subst hx
    exact ⟨hs, by omega⟩
  · intro i j hij hj
    simp only [List.length_singleton] at hj
    obtain rfl : j = 0 := by omega
    obtain rfl : i = 0 := by omega
    exact Int.le_refl _
  · intro v h1 h2
    rw [hx, h0]
    by_cases e : v = s
    · subst e; omega
    · rw [hf v (by omega) h2 e]; omega
  · intro v h1 h2 h3 h4
    by_cases e : v = s
    · subst e; simp at h4
    · rw [hf v (by omega) h2 e] at h3; omega

end Go.Proofs.Ytikjighlnpdgiaa

/-
  A queue: a slice of whole numbers of the call's own, that begins anywhere in its block.
-/
set_option linter.unusedVariables false
set_option linter.unusedSimpArgs false
namespace Go.Proofs.Ytikjighlnpdgiaa
open Go.RowKit

def QOwn (w : World) (B : Nat) (a : Option Addr) (n c : Nat) (l : List Int) : Prop :=
  ∃ g off cur, a = some ⟨g, off, none⟩ ∧ B ≤ g ∧ w.heap[g]? = some (.cells cur 3 (0, 0)) ∧ l.length = n ∧ n ≤ c ∧ off + c ≤ cur.size ∧ ∀ j, j < n → cur[off + j]? = some (.int .i64 (l[j]?.getD 0))

theorem QOwn.lt {w : World} {B n c : Nat} {a : Option Addr} {l : List Int} (h : QOwn w B a n c l) : ∀ k, Value.ownBlock (.slice a n c) = some k → B ≤ k ∧ k < w.heap.size := by
  obtain ⟨g, off, cur, rfl, hB, hg, -⟩ := h
  intro k hk
  simp only [Value.ownBlock, Option.some.injEq] at hk
  subst hk
  exact ⟨hB, (Array.getElem?_eq_some_iff.1 hg).1⟩
theorem QOwn.cell {w : World} {B n c k : Nat} {a : Option Addr} {l : List Int} (h : QOwn w B a n c l) (hk : k < n) : ∃ g off, a = some ⟨g, off, none⟩ ∧ g < w.heap.size ∧ w.cell? ⟨g, off + k, none⟩ = some (.int .i64 (l[k]?.getD 0)) := by
  obtain ⟨g, off, cur, rfl, hB, hg, hl, hc, hs, hj⟩ := h
  refine ⟨g, off, rfl, (Array.getElem?_eq_some_iff.1 hg).1, ?_⟩
  rw [cell_of_row w _ _ _ _ (0, 0) hg]
  exact hj k hk
theorem QOwn.below {w w' : World} {B n c : Nat} {a : Option Addr} {l : List Int} (h : QOwn w B a n c l) (hb : Below w.heap.size w w') : QOwn w' B a n c l := by
  obtain ⟨g, off, cur, rfl, hB, hg, rest⟩ := h
  exact ⟨g, off, cur, rfl, hB, (hb.block _ (Array.getElem?_eq_some_iff.1 hg).1).trans hg, rest⟩
theorem QOwn.kept {w w' : World} {B n c : Nat} {a : Option Addr} {l : List Int} {row : Option Nat} (h : QOwn w B a n c l) (hg : w.grownBy w' row) (hne : Value.ownBlock (.slice a n c) ≠ row) : QOwn w' B a n c l := by
  obtain ⟨g, off, cur, rfl, hB, hc, rest⟩ := h
  exact ⟨g, off, cur, rfl, hB, (hg.block _ (Array.getElem?_eq_some_iff.1 hc).1 (by simpa [Value.ownBlock] using hne)).trans hc, rest⟩
/-- The first one is taken out. -/
theorem QOwn.tail {w : World} {B n c : Nat} {g off : Nat} {x : Int} {l : List Int} (h : QOwn w B (some ⟨g, off, none⟩) (n + 1) c (x :: l)) : QOwn w B (some ⟨g, off + 1, none⟩) n (c - 1) l := by
  obtain ⟨g', off', cur, e, hB, hg, hl, hc, hs, hj⟩ := h
  simp only [Option.some.injEq, Addr.mk.injEq] at e
  obtain ⟨rfl, rfl, -⟩ := e
  refine ⟨g, off + 1, cur, rfl, hB, hg, by simpa using hl, by omega, by omega, fun j hj2 => ?_⟩
  have := hj (j + 1) (by omega)
  rw [show off + 1 + j = off + (j + 1) by omega, this]
  simp
/-- A row of the call's own is a queue. -/
theorem QOwn.of_own {w : World} {B n c : Nat} {a : Option Addr} {l : List Int} (h : OwnI w B (.slice a n c) l) (hn : 0 < n) : QOwn w B a n c l := by
  have hl := h.len
  unfold OwnI at h
  rcases h.2 with ⟨h1, h0⟩ | ⟨g, cap, cur, h1, hB, hg, hnc, hm, hs, ht⟩
  · simp only [Value.slice.injEq] at h1
    omega
  · simp only [Value.slice.injEq] at h1
    obtain ⟨rfl, -, rfl⟩ := h1
    refine ⟨g, 0, cur, rfl, hB, hg, hl, by omega, by omega, fun j hj => ?_⟩
    have e := congrArg (fun z => z[j]?) ht
    simp only [List.getElem?_take, Nat.mul_one, hl] at e
    rw [if_pos hj] at e
    rw [Nat.zero_add, ← Array.getElem?_toList, e]
    simp [show j < l.length by omega]


theorem wp_append_queue {ops : Array Oper} {rest : List Oper} {o : Oper} {a : Act} {Q : Exit → Act → World → Prop} (w : World) (hgd : o.guard = none) (so x : Operand)
    (ho : o.op = .call { callee := .builtin .append, args := #[so, x], argTypes := #[25, 25] })
    (B : Nat) (qa : Option Addr) (n c : Nat) (l : List Int) (hs : a.eval so = .slice qa n c) (hown : QOwn w B qa n c l)
    (ad : Addr) (c2 : Nat) (v : Int) (hx : a.eval x = .slice (some ad) 1 c2) (hcell : w.cell? ad = some (.int .i64 v)) (hn : n ≤ 1000000) (hB : B ≤ w.heap.size)
    (h : ∀ a' c' w', QOwn w' B a' (n + 1) c' (l ++ [v]) → w.grownBy w' (Value.ownBlock (.slice qa n c)) → (Value.ownBlock (.slice a' (n + 1) c') = Value.ownBlock (.slice qa n c) ∨ ∃ k, Value.ownBlock (.slice a' (n + 1) c') = some k ∧ w.heap.size ≤ k) → wpList Try.prog ops Q rest (a.put o.dst (.slice a' (n + 1) c')) w') : wpList Try.prog ops Q (o :: rest) a w := by
  obtain ⟨i, hi, hz, hsize, hby⟩ := info_parts Try.infoInt
  obtain ⟨g, off, cur, rfl, hBg, hg, hl, hc, hsz, hj⟩ := hown
  have hnews : ∀ j u, ([Value.int .i64 v] : List Value)[j]? = some u → w.cell? (ad.add j) = some u := by
    intro j u hu
    cases j with
    | zero => simp at hu; subst hu; simpa [Addr.add] using hcell
    | succ j => simp at hu
  refine wpList_plain hgd fun K hK => ?_
  by_cases hroom : n + 1 ≤ c
  · have hrun := run_append_room_cells (P := Try.prog) w 25 o.type 3 i Try.underlying25 hi g off n c ad 1 c2 [.int .i64 v] (by rw [hsize]; rfl) hnews (by simp [Value.oneCell']) hroom
      (by
        intro j hj2
        simp at hj2
        subst hj2
        rw [cell_of_row w _ _ _ _ (0, 0) hg, hsize, Array.getElem?_eq_getElem (by omega)]
        rfl)
      (by intro j hj2; exact frozen_of_row w _ _ _ _ hg)
    rw [hsize, Nat.mul_one] at hrun
    unfold Oper.wp
    simp [execOp, ho, resolve, invoke, builtin, hs, hx, hrun, Result.andThen]
    refine hK _ _ (h (some ⟨g, off, none⟩) c (w.setCell ⟨g, off + n, none⟩ (.int .i64 v)) ⟨g, off, _, rfl, hBg, heap_setCell_same w _ (off + n) _ _ (.int .i64 v) hg, by simp [hl], by omega, by simpa using hsz, ?_⟩ (grown_setCell w g (off + n) _) (.inl rfl))
    intro j hj2
    by_cases e : j = n
    · subst e
      have e3 : (l ++ [v])[j]?.getD 0 = v := by rw [List.getElem?_append_right (by omega)]; simp [hl]
      rw [e3]
      simp [Array.getElem?_setIfInBounds, show off + j < cur.size by omega]
    · rw [Array.getElem?_setIfInBounds_ne (by omega), hj j (by omega), List.getElem?_append_left (by omega)]
  · obtain ⟨v', w', hrun, r1, r2⟩ := run_append_arg_grows (P := Try.prog) w 25 o.type 3 i (.int .i64 0) 1 8 Try.underlying25 hi hz hsize hby rfl (by decide) ⟨g, off, none⟩ n c (l.map (Value.int .i64)) (by simp [hl])
      (by
        intro j u hu
        rw [addr_add, cell_of_row w _ _ _ _ (0, 0) hg]
        by_cases hjn : j < n
        · rw [hj j hjn, ← hu]; simp [show j < l.length by omega]
        · rw [List.getElem?_eq_none (by simp; omega)] at hu; cases hu)
      ad 1 c2 [.int .i64 v] rfl hnews (by omega) (by unfold maxLen; omega) (by omega)
    have ho2 : OwnI w' w.heap.size v' (l ++ [v]) := by
      unfold OwnI
      rw [List.map_append, List.length_append, hl]
      exact r1
    obtain ⟨a', c', rfl⟩ := ho2.form
    have e : (l ++ [v]).length = n + 1 := by simp [hl]
    rw [e] at ho2 hrun
    obtain ⟨g2, rfl, hg2, -⟩ : ∃ g2, a' = some ⟨g2, 0, none⟩ ∧ w.heap.size ≤ g2 ∧ True := by
      have hlt := ho2.lt
      unfold OwnI at ho2
      rcases ho2.2 with ⟨h1, h0⟩ | ⟨g, cap, cur, h1, hB, hg, hnc, hm, hs, ht⟩
      · simp only [Value.slice.injEq] at h1; omega
      · simp only [Value.slice.injEq] at h1
        obtain ⟨rfl, -, rfl⟩ := h1
        exact ⟨g, rfl, hB, trivial⟩
    unfold Oper.wp
    simp [execOp, ho, resolve, invoke, builtin, hs, hx, hrun, Result.andThen]
    exact hK _ _ (h _ _ _ (QOwn.of_own (ho2.mono hB) (by omega)) ⟨r2.os, r2.tape, r2.output, r2.size, fun k hk _ => r2.block k hk (by simp)⟩ (.inr ⟨g2, rfl, hg2⟩))

end Go.Proofs.Ytikjighlnpdgiaa

