/-
  Texts of this claim, joined: Base, Mem, Cur, CurG, Ints, Range.
-/
import Derived.Test.YtikjighlnpdgiaaProg
import Derived.WalkKit
import Derived.WalkSpells
import Derived.WalkLawsBesides
import Derived.Handy
import Derived.Deep.QuietTactic
import Derived.BigQuiet
import Derived.Deep.RegionHeld3
import Derived.Deep.RegionWith
import Derived.Deep.DeepFit
import Derived.Deep.LoopGhost
import Derived.Deep.DeepCutAuto
import Derived.Deep.DeepMust
/-
  Small laws on memory and lists that the walks of this seat share.
-/
set_option linter.unusedVariables false
namespace Go.Proofs.Ytikjighlnpdgiaa
open Go.RowKit

theorem hid {p : Prop} (h : p) : Hid p := h

theorem bcell {W w1 : World} (hb : Below W.heap.size W w1) : (∀ b o, b < W.heap.size → w1.cell? ⟨b, o, none⟩ = W.cell? ⟨b, o, none⟩) ∧ (∀ b o, b < W.heap.size → w1.frozen? ⟨b, o, none⟩ = W.frozen? ⟨b, o, none⟩) :=
  ⟨fun b o h => hb.cell (p := ⟨b, o, none⟩) h, fun b o h => hb.frozen (p := ⟨b, o, none⟩) h⟩

theorem bstep {w a b : World} (h : Below w.heap.size w a) (k : Below a.heap.size a b) : Below w.heap.size w b := h.trans (k.mono h.size)
theorem bdraws {B : Nat} {w : World} (n : Nat) : Below B w (w.drewN n) := below_drewN (Below.refl _ _) n

theorem ret_bool {a b : Bool} (h : a = b) : Ending.returned (.bool a) = .returned (.bool b) := by rw [h]
theorem ret_int {k : IntKind} {a b : Int} (h : a = b) : Ending.returned (.int k a) = .returned (.int k b) := by rw [h]
theorem ret_int_bool {k : IntKind} {a b : Int} {x y : Bool} (h : a = b) (h' : x = y) : Ending.returned (.tuple #[.int k a, .bool x]) = .returned (.tuple #[.int k b, .bool y]) := by rw [h, h']

/-- A slice of numbers that can be read: its cells hold the list. -/
def IntsAt (w : World) (a : Option Addr) (n : Nat) (l : List Int) : Prop :=
  l.length = n ∧ ∀ k, k < n → ∃ b off, a = some ⟨b, off, none⟩ ∧ b < w.heap.size ∧ w.cell? ⟨b, off + k, none⟩ = some (.int .i64 (l[k]?.getD 0))

theorem IntsAt.below {w w' : World} {a : Option Addr} {n : Nat} {l : List Int} (h : IntsAt w a n l) (hb : Below w.heap.size w w') : IntsAt w' a n l :=
  ⟨h.1, fun k hk => let ⟨b, off, h1, h2, h3⟩ := h.2 k hk; ⟨b, off, h1, Nat.lt_of_lt_of_le h2 hb.size, (hb.cell (p := ⟨b, off + k, none⟩) h2).trans h3⟩⟩

theorem IntsAt.nil (w : World) (a : Option Addr) : IntsAt w a 0 [] := ⟨rfl, fun k hk => absurd hk (by omega)⟩

theorem IntsAt.congr {w : World} {a : Option Addr} {n m : Nat} {l l' : List Int} (h : IntsAt w a n l) (e : n = m) (e' : l = l') : IntsAt w a m l' := by subst e; subst e'; exact h

theorem getD_mem (l : List Int) (k : Nat) (h : k < l.length) : l[k]?.getD 0 ∈ l := by
  rw [List.getElem?_eq_getElem h]; exact List.getElem_mem h

theorem take_succ' (zs : List Int) (k : Nat) (hk : k < zs.length) : zs.take (k + 1) = zs.take k ++ [zs[k]?.getD 0] := by
  rw [List.take_add_one, List.getElem?_eq_getElem hk]; rfl

theorem sum_take_succ (l : List Int) (k : Nat) (hk : k < l.length) : (l.take (k + 1)).sum = (l.take k).sum + l[k]?.getD 0 := by
  rw [take_succ' l k hk]; simp

def Big : Int := 1000000000000

theorem sum_take_bound (l : List Int) (hv : ∀ x ∈ l, -1000000000000 ≤ x ∧ x ≤ 1000000000000) : ∀ k, k ≤ l.length → -(1000000000000 * (k : Int)) ≤ (l.take k).sum ∧ (l.take k).sum ≤ 1000000000000 * (k : Int)
  | 0, _ => by simp
  | k + 1, hk => by
    have ih := sum_take_bound l hv k (by omega)
    rw [sum_take_succ l k (by omega)]
    have := hv _ (getD_mem l k (by omega))
    omega

theorem drew_drewN {B : Nat} {w : World} (t q : Nat) : Below B w ((w.drewN t).drewN q) := below_drewN (below_drewN (Below.refl _ _) t) q

/-- A slice of numbers of the call's own: its row holds the list. -/
def OwnI (w : World) (B : Nat) (v : Value) (l : List Int) : Prop := w.ownsRow B 3 1 v l.length (l.map (Value.int .i64))

theorem OwnI.form {w : World} {B : Nat} {v : Value} {l : List Int} (h : OwnI w B v l) : ∃ a c, v = .slice a l.length c := by
  rcases h.2 with ⟨rfl, h0⟩ | ⟨g, cap, cur, rfl, _⟩
  · exact ⟨none, 0, by rw [h0]⟩
  · exact ⟨_, _, rfl⟩

theorem OwnI.at {w : World} {B : Nat} {a : Option Addr} {n c : Nat} {l : List Int} (h : OwnI w B (.slice a n c) l) : IntsAt w a n l := by
  have h' := h
  unfold OwnI at h
  rcases h.2 with ⟨h1, h0⟩ | ⟨g, cap, cur, h1, hB, hg, hnc, hm, hs, ht⟩
  · simp only [Value.slice.injEq] at h1
    obtain ⟨rfl, rfl, rfl⟩ := h1
    have : l = [] := List.eq_nil_of_length_eq_zero h0
    subst this
    exact IntsAt.nil _ _
  · simp only [Value.slice.injEq] at h1
    obtain ⟨rfl, rfl, rfl⟩ := h1
    refine ⟨rfl, fun k hk => ⟨g, 0, rfl, (Array.getElem?_eq_some_iff.1 hg).1, ?_⟩⟩
    have := World.ownsRow.cellAt h' k (by simpa using hk)
    rw [Nat.zero_add, this, List.getElem?_map, List.getElem?_eq_getElem hk]
    rfl

theorem OwnI.below {w w' : World} {B : Nat} {v : Value} {l : List Int} (h : OwnI w B v l) (hb : Below w.heap.size w w') : OwnI w' B v l := by
  refine ⟨h.1, ?_⟩
  rcases h.2 with h2 | ⟨g, cap, cur, hv, hg, hh, r⟩
  · exact Or.inl h2
  · exact Or.inr ⟨g, cap, cur, hv, hg, by rw [hb.block g (Array.getElem?_eq_some_iff.1 hh).1]; exact hh, r⟩

theorem OwnI.mono {w : World} {B B' : Nat} {v : Value} {l : List Int} (h : OwnI w B v l) (hb : B' ≤ B) : OwnI w B' v l := by
  refine ⟨h.1, ?_⟩
  rcases h.2 with h2 | ⟨g, cap, cur, hv, hg, r⟩
  · exact Or.inl h2
  · exact Or.inr ⟨g, cap, cur, hv, Nat.le_trans hb hg, r⟩

/-- The block of a slice of the call's own lies from the base on, and is there. -/
theorem OwnI.lt {w : World} {B : Nat} {v : Value} {l : List Int} (h : OwnI w B v l) : ∀ k, v.ownBlock = some k → B ≤ k ∧ k < w.heap.size := World.ownsRow.lt h

theorem OwnI.kept {w w' : World} {B : Nat} {v : Value} {l : List Int} {row : Option Nat} (h : OwnI w B v l) (hg : w.grownBy w' row) (hne : v.ownBlock = none ∨ v.ownBlock ≠ row) : OwnI w' B v l := World.ownsRow.kept h hg hne

theorem OwnI.congr {w : World} {B : Nat} {v : Value} {l l' : List Int} (h : OwnI w B v l) (e : l = l') : OwnI w B v l' := by subst e; exact h

theorem IntsAt.kept {w w' : World} {a : Option Addr} {n : Nat} {l : List Int} {row : Option Nat} (h : IntsAt w a n l) (hg : w.grownBy w' row) (hne : ∀ b off, a = some ⟨b, off, none⟩ → some b ≠ row) : IntsAt w' a n l :=
  ⟨h.1, fun k hk => let ⟨b, off, h1, h2, h3⟩ := h.2 k hk; ⟨b, off, h1, Nat.lt_of_lt_of_le h2 hg.size, hg.cell h3 (hne b off h1)⟩⟩

theorem OwnI.len {w : World} {B : Nat} {a : Option Addr} {n c : Nat} {l : List Int} (h : OwnI w B (.slice a n c) l) : l.length = n := h.at.1

theorem OwnI.row {w : World} {B : Nat} {a : Option Addr} {n c : Nat} {l : List Int} (h : OwnI w B (.slice a n c) l) : w.ownsRow B 3 1 (.slice a n c) n (l.map (Value.int .i64)) := by
  have e := h.len; unfold OwnI at h; rw [e] at h; exact h

theorem OwnI.of_row {w : World} {B : Nat} {v : Value} {n : Nat} {l : List Int} (h : w.ownsRow B 3 1 v n (l.map (Value.int .i64))) : OwnI w B v l := by
  have e : n = l.length := by have := h.1; simpa using this.symm
  subst e; exact h

theorem OwnI.cell {w : World} {B g k n c : Nat} {l : List Int} (h : OwnI w B (.slice (some ⟨g, 0, none⟩) n c) l) (hk : k < n) : w.cell? ⟨g, k, none⟩ = some (.int .i64 (l[k]?.getD 0)) := by
  rw [World.ownsRow.cellAt h.row k (by simpa using hk), List.getElem?_map, List.getElem?_eq_getElem (by rw [h.len]; exact hk)]; rfl

theorem OwnI.frozen {w : World} {B g k n c : Nat} {l : List Int} (h : OwnI w B (.slice (some ⟨g, 0, none⟩) n c) l) : w.frozen? ⟨g, k, none⟩ = false := World.ownsRow.frozenAt h.row k

theorem OwnI.set {w : World} {B g k n c : Nat} {l : List Int} (h : OwnI w B (.slice (some ⟨g, 0, none⟩) n c) l) (x : Int) :
    OwnI (w.setCell ⟨g, k, none⟩ (.int .i64 x)) B (.slice (some ⟨g, 0, none⟩) n c) (l.set k x) ∧ w.grownBy (w.setCell ⟨g, k, none⟩ (.int .i64 x)) (some g) := by
  obtain ⟨h1, h2⟩ := World.ownsRow.stored h.row k (.int .i64 x)
  refine ⟨OwnI.of_row (n := n) ?_, h2⟩
  rw [List.map_set]; exact h1

theorem grownBy_trans {w a b : World} {row : Option Nat} (h : w.grownBy a row) (k : a.grownBy b row) : w.grownBy b row :=
  ⟨k.os.trans h.os, k.tape.trans h.tape, k.output.trans h.output, Nat.le_trans h.size k.size, fun i hi hr => (k.block i (Nat.lt_of_lt_of_le hi h.size) hr).trans (h.block i hi hr)⟩

theorem below_of_grown {B : Nat} {w w' : World} {row : Option Nat} (hg : w.grownBy w' row) (hB : B ≤ w.heap.size) (hr : ∀ k, row = some k → B ≤ k) : Below B w w' :=
  (Below.refl B w).grown hg hB hr

theorem grown_of_below {w w' : World} (hb : Below w.heap.size w w') (row : Option Nat) : w.grownBy w' row :=
  ⟨hb.os, hb.tape, hb.output, hb.size, fun k hk _ => hb.block k hk⟩

theorem Try.infoInt : (Try.prog.info? 3).map (fun i => (i.zero, i.size, i.bytes)) = some (some (.int .i64 0), 1, 8) := by kernel_rfl

theorem OwnI.alloc {w : World} {B : Nat} {v : Value} {l : List Int} (h : OwnI w B v l) (o : Obj) : OwnI (w.alloc o) B v l := World.ownsRow.alloc h o

theorem OwnI.lit0 (w : World) : OwnI (w.alloc (.cells #[] 3)) w.heap.size (.slice (some ⟨w.heap.size, 0, none⟩) 0 0) [] :=
  World.ownsRow_lit w #[] 0 (Nat.le_refl _) (Nat.zero_le _) rfl

theorem OwnI.nil (w : World) (B : Nat) : OwnI w B (.slice none 0 0) [] := World.ownsRow_nil _ _ _ _

theorem IntsAt.single (w : World) (x : Int) : IntsAt (w.alloc (.cells #[.int .i64 x] 3)) (some ⟨w.heap.size, 0, none⟩) 1 [x] := by
  refine ⟨rfl, fun k hk => ⟨w.heap.size, 0, rfl, by simp, ?_⟩⟩
  obtain rfl : k = 0 := by omega
  rw [World.cell?_alloc_at _ _ _ _ rfl]; rfl

theorem run_append_none {P : Program} (w : World) (base : Nat) (t ty e : TypeId) (i : TypeInfo) (size c : Nat) (ht : P.underlying t = some (.slice e)) (hi : P.info? e = some i)
    (v : Value) (n : Nat) (xs : List Value) (hown : w.ownsRow base e size v n xs) :
    (Builtin.append_ #[t, t] ty #[v, .slice none 0 c]).run P w = .ok v w := by
  rcases hown.2 with ⟨rfl, rfl⟩ | ⟨g, cap, cur, rfl, _, _, hnc, _⟩
  · simp [Builtin.append_, run_underlying ht, sizeOf, typeInfo, hi, Builtin.lenOf, Builtin.firstCells]
  · simp [Builtin.append_, run_underlying ht, sizeOf, typeInfo, hi, Builtin.lenOf, Builtin.firstCells, hnc, storeCells]

/-- What an append may read: a slice whose cells are known. -/
def CellsAt (w : World) (ax : Option Addr) (m : Nat) (size : Nat) (news : List Value) : Prop :=
  news.length = m * size ∧ (ax = none → m = 0) ∧ (∀ ad, ax = some ad → ∀ j u, news[j]? = some u → w.cell? (ad.add j) = some u) ∧ ∀ u ∈ news, u.oneCell' = true

theorem addr_add (b off j : Nat) : (⟨b, off, none⟩ : Addr).add j = ⟨b, off + j, none⟩ := by
  unfold Addr.add; split
  · rename_i h; subst h; rfl
  · rfl

theorem IntsAt.cells {w : World} {a : Option Addr} {n : Nat} {l : List Int} (h : IntsAt w a n l) : CellsAt w a n 1 (l.map (Value.int .i64)) := by
  refine ⟨by simp [h.1], ?_, ?_, ?_⟩
  · intro ha
    by_cases hn : n = 0
    · exact hn
    · obtain ⟨b, off, h1, _⟩ := h.2 0 (by omega)
      rw [ha] at h1; cases h1
  · intro ad ha j u hu
    by_cases hj : j < n
    · obtain ⟨b, off, h1, h2, h3⟩ := h.2 j hj
      rw [ha] at h1; cases h1
      rw [addr_add, h3]
      rw [List.getElem?_map] at hu
      cases hq : l[j]? with
      | none => rw [hq] at hu; cases hu
      | some x => rw [hq] at hu; simpa using hu
    · rw [List.getElem?_eq_none (by simp [h.1]; omega)] at hu; cases hu
  · intro u hu
    obtain ⟨x, _, rfl⟩ := List.mem_map.1 hu
    rfl

/-- Behind an append the row lies where it lay, or in a new block. -/
theorem append_block {P : Program} (w : World) (base : Nat) (t ty e : TypeId) (i : TypeInfo) (z : Value) (size bytes : Nat) (ht : P.underlying t = some (.slice e)) (hi : P.info? e = some i) (hz : i.zero = some z)
    (hsize : i.size = size) (hby : i.bytes = bytes)
    (v : Value) (n : Nat) (xs : List Value) (hown : w.ownsRow base e size v n xs)
    (ad : Addr) (m c : Nat) (news : List Value) (hl : news.length = m * size) (hnews : ∀ j u, news[j]? = some u → w.cell? (ad.add j) = some u) (h1 : ∀ u ∈ news, u.oneCell' = true)
    (h63 : n + m ≤ maxLen) (hbytes : (n + m) * bytes ≤ 140737488355328) {v' : Value} {w' : World}
    (h : (Builtin.append_ #[t, t] ty #[v, .slice (some ad) m c]).run P w = .ok v' w') : v'.ownBlock = v.ownBlock ∨ v'.ownBlock = some w.heap.size := by
  subst hsize
  subst hby
  have hsmall : n + m ≤ 9223372036854775807 := by simp only [maxLen] at h63; omega
  rcases hown.2 with ⟨rfl, rfl⟩ | ⟨g, cap, cur, rfl, hbg, hg, hnc, hcm, hcs, htake⟩
  · by_cases hm : m = 0
    · subst hm
      have hn : news = [] := List.eq_nil_of_length_eq_zero (by simpa using hl)
      subst hn
      have hr : (Builtin.append_ #[t, t] ty #[.slice none 0 0, .slice (some ad) 0 c]).run P w = .ok (.slice none 0 0) w := by
        simp [Builtin.append_, run_underlying ht, sizeOf, typeInfo, hi, Builtin.lenOf, Builtin.firstCells, loadCells, loadCellsFrom]
      rw [hr] at h
      injection h with h2 _
      subst h2
      exact Or.inl rfl
    · have hr := run_append_nil (P := P) w t ty e i z ht hi hz ad m c news hl hnews (by omega) (by omega) (by have hb := hbytes; simp only [Nat.zero_add] at hb; omega)
      rw [hr] at h
      injection h with h2 _
      subst h2
      exact Or.inr rfl
  · by_cases hroom : n + m ≤ cap
    · have hfit : n * i.size + news.length ≤ cur.size := by rw [hl, hcs, ← Nat.add_mul]; exact Nat.mul_le_mul_right _ hroom
      have hr := run_append_room (P := P) w t ty e i ht hi g n cap cur hg ad m c news hl hnews h1 hroom hfit
      rw [hr] at h
      injection h with h2 _
      subst h2
      exact Or.inl rfl
    · have holds : ∀ j u, xs[j]? = some u → w.cell? ((⟨g, 0, none⟩ : Addr).add j) = some u := hown.cells (g := g) rfl
      have hr := run_append_grow (P := P) w t ty e i z ht hi hz ⟨g, 0, none⟩ n cap xs hown.1 holds ad m c news hl hnews (by omega) (by omega) (growslice_fits (by omega) hbytes)
      rw [hr] at h
      injection h with h2 _
      subst h2
      exact Or.inr rfl

theorem wp_append_cells {P : Program} {ops : Array Oper} {rest : List Oper} {o : Oper} {a : Act} {Q : Exit → Act → World → Prop} (w : World) (hgd : o.guard = none) (s x : Operand) (t : TypeId)
    (ho : o.op = .call { callee := .builtin .append, args := #[s, x], argTypes := #[t, t] })
    (base : Nat) (e : TypeId) (i : TypeInfo) (z : Value) (size bytes : Nat) (ht : P.underlying t = some (.slice e)) (hi : P.info? e = some i) (hz : i.zero = some z)
    (hsize : i.size = size) (hby : i.bytes = bytes) (hzs : z.cells.size = size) (hsz : 0 < size)
    (v : Value) (n : Nat) (xs : List Value) (hs : a.eval s = v) (hown : w.ownsRow base e size v n xs)
    (ax : Option Addr) (m c : Nat) (news : List Value) (hx : a.eval x = .slice ax m c) (hat : CellsAt w ax m size news)
    (h63 : n + m ≤ maxLen) (hbytes : (n + m) * bytes ≤ 140737488355328) (hbase : base ≤ w.heap.size)
    (h : ∀ v' w', w'.ownsRow base e size v' (n + m) (xs ++ news) → w.grownBy w' v.ownBlock → (v'.ownBlock = v.ownBlock ∨ v'.ownBlock = some w.heap.size) → wpList P ops Q rest (a.put o.dst v') w') : wpList P ops Q (o :: rest) a w := by
  obtain ⟨h1, h2, h3, h4⟩ := hat
  cases ax with
  | some ad =>
    obtain ⟨v', w', hrun, k1, k2, _⟩ := run_append_own (P := P) w base t o.type e i z size bytes ht hi hz hsize hby hzs hsz v n xs hown ad m c news h1 (h3 ad rfl) h4 h63 hbytes hbase
    have k3 := append_block w base t o.type e i z size bytes ht hi hz hsize hby v n xs hown ad m c news h1 (h3 ad rfl) h4 h63 hbytes hrun
    refine wpList_plain hgd fun K hK => ?_
    unfold Oper.wp
    simp [execOp, ho, resolve, invoke, builtin, hs, hx, hrun, Result.andThen]
    exact hK _ _ (h v' w' k1 k2 k3)
  | none =>
    obtain rfl := h2 rfl
    have hnews : news = [] := List.eq_nil_of_length_eq_zero (by simpa using h1)
    subst hnews
    refine wpList_plain hgd fun K hK => ?_
    have hrun := run_append_none (P := P) w base t o.type e i size c ht hi v n xs hown
    unfold Oper.wp
    simp [execOp, ho, resolve, invoke, builtin, hs, hx, hrun, Result.andThen]
    refine hK _ _ (h v w ?_ (World.grownBy.refl _ _) (Or.inl rfl))
    simpa using hown

theorem wp_append_ints {ops : Array Oper} {rest : List Oper} {o : Oper} {a : Act} {Q : Exit → Act → World → Prop} (w : World) (hgd : o.guard = none) (s x : Operand)
    (ho : o.op = .call { callee := .builtin .append, args := #[s, x], argTypes := #[25, 25] })
    (B : Nat) (v : Value) (l : List Int) (hs : a.eval s = v) (hown : OwnI w B v l)
    (ax : Option Addr) (m c : Nat) (l2 : List Int) (hx : a.eval x = .slice ax m c) (hat : IntsAt w ax m l2)
    (N : Nat) (hN : l.length + m = N) (hb : N ≤ 1099511627776) (hB : B ≤ w.heap.size)
    (h : ∀ a' c' w', OwnI w' B (.slice a' N c') (l ++ l2) → w.grownBy w' v.ownBlock → (Value.ownBlock (.slice a' N c') = v.ownBlock ∨ Value.ownBlock (.slice a' N c') = some w.heap.size) → wpList Try.prog ops Q rest (a.put o.dst (.slice a' N c')) w') : wpList Try.prog ops Q (o :: rest) a w := by
  obtain ⟨i0, hi, hz0, hz1, hz2⟩ := info_parts Try.infoInt
  refine wp_append_cells w hgd s x 25 ho B 3 i0 (.int .i64 0) 1 8 Try.underlying25 hi hz0 hz1 hz2 rfl (by decide) v l.length _ hs hown ax m c _ hx hat.cells (by unfold maxLen; omega) (by omega) hB ?_
  intro v' w' h1 h2 h3
  have ho : OwnI w' B v' (l ++ l2) := OwnI.of_row (n := l.length + m) (by rw [List.map_append]; exact h1)
  obtain ⟨a', c', rfl⟩ := ho.form
  have e : (l ++ l2).length = N := by rw [List.length_append, hat.1]; exact hN
  rw [e] at ho h3 ⊢
  exact h a' c' w' ho h2 h3

theorem OwnI.made {w : World} {B n : Nat} {v : Value} (h : w.ownsRow B 3 1 v n (madeCells #[Value.int IntKind.i64 0] n).toList) : OwnI w B v (List.replicate n 0) := by
  refine OwnI.of_row (n := n) ?_
  rw [toList_madeCells_one] at h
  rw [List.map_replicate]; exact h

/-- The numbers that a mark leaves. -/
def marks (k : Int) (n : Nat) : List Int := (List.range n).map (fun i : Nat => k + (i : Int))
theorem marks_length (k : Int) (n : Nat) : (marks k n).length = n := by simp [marks]
theorem marks_ext {k : Int} {n : Nat} {l : List Int} (hl : l.length = n) (h : ∀ j, j < n → l[j]?.getD 0 = k + j) : l = marks k n := by
  apply List.ext_getElem (by rw [hl, marks_length])
  intro i h1 h2
  have := h i (by omega)
  rw [List.getElem?_eq_getElem h1] at this
  simpa [marks] using this
theorem marks_get (k : Int) (n i : Nat) (h : i < n) : (marks k n)[i]?.getD 0 = k + i := by simp [marks, h]

theorem quiet_eq {P : Program} {f : FuncId} {args : Array Value} {w : World} {n : Nat} {v : Value}
    (h : Calls P f args (w.drewN n) fun e w' => e = .returned v ∧ w.drewN n = w') : Calls P f args (w.drewN n) fun e w'' => e = .returned v ∧ ∃ m, w'' = w.drewN m :=
  h.mono fun _ _ ⟨he, hm⟩ => ⟨he, n, hm.symm⟩

end Go.Proofs.Ytikjighlnpdgiaa

/-
  A slice of a call's own stays as it is where another block is written.
-/
set_option linter.unusedVariables false
namespace Go.Proofs.Ytikjighlnpdgiaa
open Go.RowKit

theorem grown_setCell (w : World) (b o : Nat) (u : Value) : w.grownBy (w.setCell ⟨b, o, none⟩ u) (some b) :=
  ⟨rfl, rfl, rfl, by simp, fun k _ hk => Below.heap_setCell _ _ _ _ (fun e => hk (by rw [e]))⟩
theorem OwnI.far {w : World} {B b o : Nat} {v u : Value} {l : List Int} (h : OwnI w B v l) (hb : b < B) : OwnI (w.setCell ⟨b, o, none⟩ u) B v l :=
  h.kept (grown_setCell w b o u) (by
    cases hv : v.ownBlock with
    | none => exact .inl rfl
    | some k =>
      refine .inr fun e => ?_
      have := (h.lt k hv).1
      cases e
      omega)
theorem sum_fit {l : List Int} {B : Int} (hB : 0 ≤ B) (h : ∀ x ∈ l, 0 ≤ x ∧ x ≤ B) : 0 ≤ l.sum ∧ l.sum ≤ B * (l.length : Int) := by
  induction l with
  | nil => simp
  | cons x r ih =>
    have h1 := h x (by simp)
    have h2 := ih fun y hy => h y (by simp [hy])
    simp only [List.sum_cons, List.length_cons]
    have e : B * ((r.length + 1 : Nat) : Int) = B * (r.length : Int) + B := by rw [Int.natCast_add, Int.mul_add]; simp
    omega
theorem getD_mem' {l : List Int} {k : Nat} (hk : k < l.length) : l[k]?.getD 0 ∈ l := by
  rw [List.getElem?_eq_getElem hk]
  exact List.getElem_mem hk

theorem mid_new (W : World) (x y : Obj) (g : Nat) (hg : g = W.heap.size) : ((W.alloc x).alloc y).heap[g]? = some x := by
  subst hg
  rw [Below.heap_alloc _ _ _ (by simp)]
  exact heap_alloc_new _ _
theorem other_cell {W : World} {b o g : Nat} {u : Value} {x : Obj} (h : W.heap[g]? = some x) (hne : g ≠ b) : (W.setCell ⟨b, o, none⟩ u).heap[g]? = some x := (Below.heap_setCell _ _ _ _ hne).trans h

end Go.Proofs.Ytikjighlnpdgiaa

/-
  The cursor that the draws read from.
-/
set_option linter.unusedVariables false
set_option linter.unusedSimpArgs false
namespace Go.Proofs.Ytikjighlnpdgiaa
open Go.RowKit

/-- A cursor at the block g, at most K bytes read. -/
def Cur (w : World) (g K : Nat) : Prop :=
  ∃ (a : Option Addr) (n c k : Nat) (s : Int), k ≤ K ∧ n ≤ 9223372036854775807 ∧ w.heap[g]? = some (.cells #[.slice a n c, .int .i64 k, .int .u64 s] 78 (0, 0)) ∧
    ∀ i, i < n → ∃ (b o : Nat) (v : Int), a = some ⟨b, o, none⟩ ∧ b < g ∧ w.cell? ⟨b, o + i, none⟩ = some (.int .u8 v) ∧ 0 ≤ v ∧ v < 256

theorem grown_cell {w w' : World} {g : Nat} (h : w.grownBy w' (some g)) (p : Addr) (hp : p.block < w.heap.size) (hne : p.block ≠ g) : w'.cell? p = w.cell? p := by
  unfold World.cell?
  rw [h.block p.block hp (fun e => hne (Option.some.inj e))]

theorem Cur.le {w : World} {g K K' : Nat} (h : Cur w g K) (hk : K ≤ K') : Cur w g K' := by
  obtain ⟨a, n, c, k, s, h1, h2⟩ := h
  exact ⟨a, n, c, k, s, by omega, h2⟩

set_option maxHeartbeats 1000000 in
theorem c_next (g K : Nat) (w : World) (h : Cur w g K) (hK : K ≤ 1000000000000) :
    Calls Try.prog 105 #[.pointer (some ⟨g, 0, none⟩)] w fun e w' => (∃ v : Int, e = .returned (.int .i64 v) ∧ 0 ≤ v ∧ v < 256) ∧ Cur w' g (K + 1) ∧ w.grownBy w' (some g) := by
  obtain ⟨a, n, c, k, s, hk, hn, hr, hb⟩ := h
  have HR := hid hr
  have HB := hid hb
  have n0 := cell_of_row w _ 0 _ _ (0, 0) hr
  have n1 := cell_of_row w _ 1 _ _ (0, 0) hr
  have n2 := cell_of_row w _ 2 _ _ (0, 0) hr
  have f1 := frozen_of_row w _ 1 _ _ hr
  have f2 := frozen_of_row w _ 2 _ _ hr
  simp only [List.getElem?_toArray, List.getElem?_cons_zero, List.getElem?_cons_succ] at n0 n1 n2
  have hz : g < w.heap.size := World.block_lt_of_cell? w _ n0
  clear hr hb
  by_cases hlt : k < n
  · obtain ⟨b, o, v, rfl, hbg, hcl, v0, v1⟩ := HB.out k hlt
    have hbz : b < w.heap.size := by omega
    have hne : ¬ b = g := by omega
    have hne2 : ¬ g = b := by omega
    have i0 : (0 : Int) ≤ (k : Int) := by omega
    have i1 : (k : Int) < (n : Int) := by omega
    go_enter Try.func105, Try.ntmps105
    go_wp2
    go_quiet (fail)
    go_wp2
    go_quiet (fail)
    have hw1 := IntWalk.i64_in ((k : Int) + 1) (by omega)
    go_upto_region 6 with fail
    generalize hwd : w.drewN _ = wd
    have hr1 : wd.heap[g]? = some (.cells #[.slice (some ⟨b, o, none⟩) n c, .int .i64 k, .int .u64 s] 78 (0, 0)) := by rw [← hwd]; exact HR.out
    have hbd : Below w.heap.size w wd := by rw [← hwd]; exact bdraws _
    generalize IntKind.u64.wrap (IntKind.u64.wrap (IntKind.u64.wrap (s * 6364136223846793005) + v) + 853853) = s1 at *
    have r7 := heap_setCell_same _ _ 2 _ _ (.int .u64 s1) (heap_setCell_same _ _ 1 _ _ (.int .i64 ((k : Int) + 1)) hr1)
    simp only [List.setIfInBounds_toArray, List.set_cons_zero, List.set_cons_succ] at r7
    have hg2 : w.grownBy ((wd.setCell ⟨g, 1, none⟩ (.int .i64 ((k : Int) + 1))).setCell ⟨g, 2, none⟩ (.int .u64 s1)) (some g) := grownBy_trans (grownBy_trans (grown_of_below hbd _) (grown_setCell wd g 1 _)) (grown_setCell _ g 2 _)
    have hcur : Cur ((wd.setCell ⟨g, 1, none⟩ (.int .i64 ((k : Int) + 1))).setCell ⟨g, 2, none⟩ (.int .u64 s1)) g (K + 1) := by
      refine ⟨_, n, c, k + 1, s1, by omega, hn, by rw [r7]; rfl, fun i hi => ?_⟩
      obtain ⟨b, o, v, e, h1, h2, h3⟩ := HB.out i hi
      exact ⟨b, o, v, e, h1, (grown_cell hg2 ⟨b, o + i, none⟩ (by show b < _; omega) (by show b ≠ g; omega)).trans h2, h3⟩
    have m0 := cell_of_row _ _ 0 _ _ (0, 0) r7
    have m1 := cell_of_row _ _ 1 _ _ (0, 0) r7
    have m2 := cell_of_row _ _ 2 _ _ (0, 0) r7
    simp only [List.getElem?_toArray, List.getElem?_cons_zero, List.getElem?_cons_succ] at m0 m1 m2
    have HC := hid hcur
    have HG2 := hid hg2
    generalize (wd.setCell ⟨g, 1, none⟩ (.int .i64 ((k : Int) + 1))).setCell ⟨g, 2, none⟩ (.int .u64 s1) = w6 at *
    clear n0 n1 n2 f1 f2 hwd hr1 hbd r7 hg2 hcur
    have hz6 : g < w6.heap.size := World.block_lt_of_cell? w6 _ m0
    have hle : (k : Int) + 1 ≤ (n : Int) := by omega
    go_quiet (fail)
    go_wp2
    go_ret
    exact ⟨⟨v, rfl, v0, v1⟩, HC.out, grownBy_trans HG2.out (grown_of_below (bdraws _) _)⟩
  · have hd : decide ((k : Int) < (n : Int)) = false := by simp; omega
    go_enter Try.func105, Try.ntmps105
    go_wp2
    go_quiet (fail)
    have hw1 := IntWalk.i64_in ((k : Int) + 1) (by omega)
    go_upto_region 6 with fail
    generalize hwd : w.drewN _ = wd
    have hr1 : wd.heap[g]? = some (.cells #[.slice a n c, .int .i64 k, .int .u64 s] 78 (0, 0)) := by rw [← hwd]; exact HR.out
    have hbd : Below w.heap.size w wd := by rw [← hwd]; exact bdraws _
    have hrange : 0 ≤ IntKind.u64.wrap (IntKind.u64.wrap (IntKind.u64.wrap (s * 6364136223846793005)) + 853853) ∧ IntKind.u64.wrap (IntKind.u64.wrap (IntKind.u64.wrap (s * 6364136223846793005)) + 853853) < 18446744073709551616 := by rw [IntKind.wrap_u64]; omega
    generalize IntKind.u64.wrap (IntKind.u64.wrap (IntKind.u64.wrap (s * 6364136223846793005)) + 853853) = s1 at *
    have r7 := heap_setCell_same _ _ 2 _ _ (.int .u64 s1) (heap_setCell_same _ _ 1 _ _ (.int .i64 ((k : Int) + 1)) hr1)
    simp only [List.setIfInBounds_toArray, List.set_cons_zero, List.set_cons_succ] at r7
    have hg2 : w.grownBy ((wd.setCell ⟨g, 1, none⟩ (.int .i64 ((k : Int) + 1))).setCell ⟨g, 2, none⟩ (.int .u64 s1)) (some g) := grownBy_trans (grownBy_trans (grown_of_below hbd _) (grown_setCell wd g 1 _)) (grown_setCell _ g 2 _)
    have hcur : Cur ((wd.setCell ⟨g, 1, none⟩ (.int .i64 ((k : Int) + 1))).setCell ⟨g, 2, none⟩ (.int .u64 s1)) g (K + 1) := by
      refine ⟨_, n, c, k + 1, s1, by omega, hn, by rw [r7]; rfl, fun i hi => ?_⟩
      obtain ⟨b, o, v, e, h1, h2, h3⟩ := HB.out i hi
      exact ⟨b, o, v, e, h1, (grown_cell hg2 ⟨b, o + i, none⟩ (by show b < _; omega) (by show b ≠ g; omega)).trans h2, h3⟩
    have m0 := cell_of_row _ _ 0 _ _ (0, 0) r7
    have m1 := cell_of_row _ _ 1 _ _ (0, 0) r7
    have m2 := cell_of_row _ _ 2 _ _ (0, 0) r7
    simp only [List.getElem?_toArray, List.getElem?_cons_zero, List.getElem?_cons_succ] at m0 m1 m2
    have HC := hid hcur
    have HG2 := hid hg2
    generalize (wd.setCell ⟨g, 1, none⟩ (.int .i64 ((k : Int) + 1))).setCell ⟨g, 2, none⟩ (.int .u64 s1) = w6 at *
    clear n0 n1 n2 f1 f2 hwd hr1 hbd r7 hg2 hcur
    have hz6 : g < w6.heap.size := World.block_lt_of_cell? w6 _ m0
    have hle : ¬ (k : Int) + 1 ≤ (n : Int) := by omega
    go_quiet (fail)
    go_wp2
    have hv : bits .and .u64 (s1 / 1099511627776) 255 = (s1 / 1099511627776) % 256 := by
      have h := bits_mask .u64 63 (by decide) (fun n h0 h1 => by rw [IntKind.wrap_u64]; omega) 8 (by decide) (s1 / 1099511627776) (by omega) (by omega)
      have e : ((2 : Int) ^ 8 - 1) = 255 := by decide
      have e2 : ((2 : Int) ^ 8) = 256 := by decide
      rw [e, e2] at h
      exact h
    rw [hv]
    have hv2 : wrap64 (s1 / 1099511627776 % 256) = s1 / 1099511627776 % 256 := by unfold wrap64; omega
    rw [hv2]
    go_ret
    exact ⟨⟨_, rfl, by omega, by omega⟩, HC.out, grownBy_trans HG2.out (grown_of_below (bdraws _) _)⟩

theorem IntsAt.lit (w : World) (e : TypeId) (l : List Int) : IntsAt (w.alloc (.cells (l.map fun x => .int .i64 x).toArray e)) (some ⟨w.heap.size, 0, none⟩) l.length l := by
  refine ⟨rfl, fun i hi => ⟨w.heap.size, 0, rfl, by simp, ?_⟩⟩
  rw [cell_of_row _ _ _ _ _ (0, 0) (heap_alloc_new _ _)]
  simp [hi]

theorem IntsAt.lit' (w : World) (e : TypeId) (l : List Int) {cs : Array Value} {b : Nat} (hcs : cs = (l.map fun x => Value.int .i64 x).toArray) (hb : b = w.heap.size) : IntsAt (w.alloc (.cells cs e)) (some ⟨b, 0, none⟩) l.length l := by
  subst hb
  subst hcs
  exact IntsAt.lit w e l

set_option maxHeartbeats 1000000 in
theorem c_pick (g K : Nat) (n : Int) (w : World) (h : Cur w g K) (hK : K ≤ 900000000000) (hn : -9223372036854775808 ≤ n ∧ n ≤ 9223372036854775807) :
    Calls Try.prog 89 #[.pointer (some ⟨g, 0, none⟩), .int .i64 n] w fun e w' => (∃ v : Int, e = .returned (.int .i64 v) ∧ 0 ≤ v ∧ (v < n ∨ v = 0)) ∧ Cur w' g (K + 2) ∧ w.grownBy w' (some g) := by
  have H := hid h
  clear h
  by_cases h1 : n ≤ 1
  · go_enter Try.func89, Try.ntmps89
    go_wp2
    go_ret
    exact ⟨⟨0, rfl, by omega, .inr rfl⟩, Cur.le H.out (by omega), grown_of_below (Below.refl _ _) _⟩
  · by_cases h2 : 200 < n
    · go_enter Try.func89, Try.ntmps89
      go_wp2_with fail
      refine (c_next g K _ H.out (by omega)).mono ?_
      rintro e w1 ⟨⟨v, rfl, v0, v1⟩, hc1, hg1⟩
      have HC1 := hid hc1
      have HG1 := hid hg1
      have hw1 := IntWalk.i64_in (v * 256) (by omega)
      clear hc1 hg1
      go_wp2_with fail
      refine (c_next g (K + 1) _ HC1.out (by omega)).mono ?_
      rintro e w2 ⟨⟨u, rfl, u0, u1⟩, hc2, hg2⟩
      have HC2 := hid hc2
      have HG2 := hid (grownBy_trans HG1.out hg2)
      have hw2 := IntWalk.i64_in (v * 256 + u) (by omega)
      clear hc2 hg2
      go_wp2
      go_ret
      exact ⟨⟨_, rfl, Int.emod_nonneg _ (by omega), .inl (Int.emod_lt_of_pos _ (by omega))⟩, HC2.out, HG2.out⟩
    · go_enter Try.func89, Try.ntmps89
      go_wp2_with fail
      refine (c_next g K _ H.out (by omega)).mono ?_
      rintro e w1 ⟨⟨v, rfl, v0, v1⟩, hc1, hg1⟩
      have HC1 := hid hc1
      have HG1 := hid hg1
      clear hc1 hg1
      go_wp2
      go_ret
      exact ⟨⟨_, rfl, Int.emod_nonneg _ (by omega), .inl (Int.emod_lt_of_pos _ (by omega))⟩, HC1.out.le (by omega), HG1.out⟩

theorem c_one (g K : Nat) (n : Int) (w : World) (h : Cur w g K) (hK : K ≤ 900000000000) (hn : -9223372036854775808 ≤ n ∧ n ≤ 9223372036854775807) :
    Calls Try.prog 90 #[.pointer (some ⟨g, 0, none⟩), .int .i64 n] w fun e w' => (∃ b : Bool, e = .returned (.bool b)) ∧ Cur w' g (K + 2) ∧ w.grownBy w' (some g) := by
  have H := hid h
  clear h
  go_enter Try.func90, Try.ntmps90
  go_wp2_with fail
  refine (c_pick g K n _ H.out hK hn).mono ?_
  rintro e w1 ⟨⟨v, rfl, v0, v1⟩, hc1, hg1⟩
  have HC1 := hid hc1
  have HG1 := hid hg1
  clear hc1 hg1
  go_wp2
  go_ret
  exact ⟨⟨_, rfl⟩, HC1.out, HG1.out⟩

theorem c_among (g K b n c : Nat) (l : List Int) (w : World) (h : Cur w g K) (hK : K ≤ 900000000000) (hl : IntsAt w (some ⟨b, 0, none⟩) n l) (hne : b ≠ g) (hn : 0 < n) (hn2 : n ≤ 1000) :
    Calls Try.prog 93 #[.pointer (some ⟨g, 0, none⟩), .slice (some ⟨b, 0, none⟩) n c] w fun e w' => (∃ v : Int, e = .returned (.int .i64 v) ∧ v ∈ l) ∧ Cur w' g (K + 2) ∧ w.grownBy w' (some g) := by
  have H := hid h
  have HL := hid hl
  clear h hl
  go_enter Try.func93, Try.ntmps93
  go_wp2_with fail
  refine (c_pick g K n _ H.out hK (by omega)).mono ?_
  rintro e w1 ⟨⟨v, rfl, v0, v1⟩, hc1, hg1⟩
  have HC1 := hid hc1
  have HG1 := hid hg1
  obtain ⟨i, rfl⟩ : ∃ i : Nat, v = i := ⟨v.toNat, by omega⟩
  have hi : i < n := by omega
  have hi2 : (i : Int) < (n : Int) := by omega
  obtain ⟨b1, o1, e1, hb1, hcl⟩ := HL.out.2 i hi
  simp only [Option.some.injEq, Addr.mk.injEq] at e1
  obtain ⟨rfl, rfl, -⟩ := e1
  have hcl1 := (grown_cell hg1 ⟨b, 0 + i, none⟩ hb1 hne).trans hcl
  rw [Nat.zero_add] at hcl1
  clear hc1 hg1 hcl v1
  go_wp2
  go_ret
  exact ⟨⟨_, rfl, getD_mem l i (by have := HL.out.1; omega)⟩, HC1.out, HG1.out⟩

end Go.Proofs.Ytikjighlnpdgiaa

/-
  The cursor: what goes with it through memory.
-/
set_option linter.unusedVariables false
set_option linter.unusedSimpArgs false
namespace Go.Proofs.Ytikjighlnpdgiaa
open Go.RowKit

theorem Cur.kept {w w' : World} {g K : Nat} {row : Option Nat} (h : Cur w g K) (hg : w.grownBy w' row) (hr : ∀ k, row = some k → g < k) : Cur w' g K := by
  obtain ⟨a, n, c, k, s, h1, h2, h3, h4⟩ := h
  have hz : g < w.heap.size := by
    apply Classical.byContradiction
    intro hz
    rw [Array.getElem?_eq_none (by omega)] at h3
    cases h3
  refine ⟨a, n, c, k, s, h1, h2, by rw [hg.block g hz (fun e => by have := hr g e.symm; omega)]; exact h3, fun i hi => ?_⟩
  obtain ⟨b, o, v, e, h5, h6, h7⟩ := h4 i hi
  refine ⟨b, o, v, e, h5, ?_, h7⟩
  rw [← h6]
  unfold World.cell?
  rw [hg.block b (by omega) (fun e => by have := hr b e.symm; omega)]
theorem Cur.below {w w' : World} {g K : Nat} (h : Cur w g K) (hb : Below w.heap.size w w') : Cur w' g K := h.kept (grown_of_below hb none) (fun k e => by cases e)
theorem Cur.lt {w : World} {g K : Nat} (h : Cur w g K) : g < w.heap.size := by
  obtain ⟨a, n, c, k, s, h1, h2, h3, h4⟩ := h
  apply Classical.byContradiction
  intro hz
  rw [Array.getElem?_eq_none (by omega)] at h3
  cases h3
theorem grown_step {w a b : World} {g : Nat} {row : Option Nat} (h1 : w.grownBy a (some g)) (h2 : a.grownBy b row) (hr : ∀ k, row = some k → w.heap.size ≤ k ∨ k = g) : w.grownBy b (some g) := by
  refine ⟨h2.os.trans h1.os, h2.tape.trans h1.tape, h2.output.trans h1.output, Nat.le_trans h1.size h2.size, fun i hi hne => ?_⟩
  rw [h2.block i (by have := h1.size; omega) (fun e => ?_), h1.block i hi hne]
  rcases hr i e.symm with h | h
  · omega
  · exact hne (by rw [h])
theorem ownI_ne {w : World} {B g : Nat} {v : Value} {l : List Int} (h : OwnI w B v l) (hg : g < B) : v.ownBlock = none ∨ v.ownBlock ≠ some g := by
  cases e : v.ownBlock with
  | none => exact .inl rfl
  | some k => exact .inr (fun e2 => by have h1 := (h.lt k e).1; have := Option.some.inj e2; omega)

theorem Cur.set {w : World} {g K b j : Nat} {u : Value} (h : Cur w g K) (hb : g < b) : Cur (w.setCell ⟨b, j, none⟩ u) g K := h.kept (grown_setCell w b j u) (fun k e => by cases e; exact hb)
theorem grown_set {w a : World} {g b j : Nat} {u : Value} (h : w.grownBy a (some g)) (hb : w.heap.size ≤ b) : w.grownBy (a.setCell ⟨b, j, none⟩ u) (some g) := grown_step h (grown_setCell a b j u) (fun k e => by cases e; exact .inl hb)

theorem own_old {v : Value} {g Z : Nat} (hl : ∀ k, v.ownBlock = some k → k < Z) (hg : Z ≤ g) : v.ownBlock = none ∨ v.ownBlock ≠ some g := by
  cases e : v.ownBlock with
  | none => exact .inl rfl
  | some k => exact .inr (fun e2 => by have h1 := hl k e; have := Option.some.inj e2; omega)

/-- Bytes in memory. -/
def BytesAt (w : World) (a : Option Addr) (n : Nat) : Prop := n ≤ 9223372036854775807 ∧ ∀ i, i < n → ∃ (b o : Nat) (v : Int), a = some ⟨b, o, none⟩ ∧ b < w.heap.size ∧ w.cell? ⟨b, o + i, none⟩ = some (.int .u8 v) ∧ 0 ≤ v ∧ v < 256
theorem BytesAt.below {w w' : World} {a : Option Addr} {n : Nat} (h : BytesAt w a n) (hb : Below w.heap.size w w') : BytesAt w' a n :=
  ⟨h.1, fun i hi => by
    obtain ⟨b, o, v, h1, h2, h3, h4⟩ := h.2 i hi
    exact ⟨b, o, v, h1, Nat.lt_of_lt_of_le h2 hb.size, (hb.cell (p := ⟨b, o + i, none⟩) h2).trans h3, h4⟩⟩
theorem Cur.start {w : World} {a : Option Addr} {n c g : Nat} (h : BytesAt w a n) (hg : g = w.heap.size) : Cur (w.alloc (.cells #[.slice a n c, .int .i64 0, .int .u64 0] 78)) g 0 := by
  subst hg
  refine ⟨a, n, c, 0, 0, Nat.le_refl _, h.1, heap_alloc_new _ _, fun i hi => ?_⟩
  obtain ⟨b, o, v, h1, h2, h3, h4⟩ := h.2 i hi
  refine ⟨b, o, v, h1, h2, ?_, h4⟩
  rw [← h3]
  unfold World.cell?
  rw [Below.heap_alloc _ _ _ h2]

theorem two_of {w : World} {b : Nat} {x y : Value} {t : TypeId} (h : w.heap[b]? = some (.cells #[x, y] t (0, 0))) : w.cell? ⟨b, 0, none⟩ = some x ∧ w.cell? ⟨b, 1, none⟩ = some y :=
  ⟨by rw [cell_of_row w _ _ _ _ (0, 0) h]; rfl, by rw [cell_of_row w _ _ _ _ (0, 0) h]; rfl⟩

end Go.Proofs.Ytikjighlnpdgiaa

/-
  What the small functions on slices of numbers do: sums, comparisons, copies, marks.
-/
set_option linter.unusedVariables false
namespace Go.Proofs.Ytikjighlnpdgiaa
open Go.RowKit

set_option maxHeartbeats 400000 in
theorem i_sumInts (a : Option Addr) (n c : Nat) (l : List Int) (w : World) (h : IntsAt w a n l) (hn : n ≤ 4194304) (hv : ∀ x ∈ l, -1000000000000 ≤ x ∧ x ≤ 1000000000000) :
    Calls Try.prog 43 #[.slice a n c] w fun e w' => e = .returned (.int .i64 l.sum) ∧ w = w' := by
  obtain ⟨hl, hc⟩ := h
  have HL := hid hl
  clear hl
  go_enter Try.func43, Try.ntmps43
  go_wp2
  go_loop [3, 8] (fun s i => ∃ k : Nat, k ≤ n ∧ i = .int .i64 k ∧ s = .int .i64 ((l.take k).sum)) (fun _ i => n - (intOf i).toNat)
  case atStart => exact ⟨0, Nat.zero_le _, rfl, rfl⟩
  case round =>
    obtain ⟨k, hk, rfl, rfl⟩ := hrel
    by_cases hlt : k < n
    · obtain ⟨b, off, rfl, hbw, hcell⟩ := hc k hlt
      clear hc
      have hb1 := sum_take_bound l hv k (by have := HL.out; omega)
      have hb2 := sum_take_bound l hv (k + 1) (by have := HL.out; omega)
      rw [sum_take_succ l k (by have := HL.out; omega)] at hb2
      have hs := hid (sum_take_succ l k (by have := HL.out; omega))
      go_wp2
      go_round
      case rel => exact ⟨k + 1, by omega, by go_num, by rw [hs.out]⟩
      case measure => simp [intOf]; omega
    · go_wp2
      go_ret
      exact ⟨ret_int (by rw [List.take_of_length_le (by have := HL.out; omega)]), rfl⟩
set_option maxHeartbeats 400000 in
theorem s_l8Sum (a : Option Addr) (n c : Nat) (l : List Int) (w : World) (h : IntsAt w a n l) (hn : n ≤ 4194304) (hv : ∀ x ∈ l, -1000000000000 ≤ x ∧ x ≤ 1000000000000) :
    Calls Try.prog 33 #[.slice a n c] w fun e w' => e = .returned (.int .i64 l.sum) ∧ w = w' := by
  obtain ⟨hl, hc⟩ := h
  have HL := hid hl
  clear hl
  go_enter Try.func33, Try.ntmps33
  go_wp2
  go_loop [3, 4] (fun s i => ∃ k : Nat, k ≤ n ∧ i = .int .i64 k ∧ s = .int .i64 ((l.take k).sum)) (fun _ i => n - (intOf i).toNat)
  case atStart => exact ⟨0, Nat.zero_le _, rfl, rfl⟩
  case round =>
    obtain ⟨k, hk, rfl, rfl⟩ := hrel
    by_cases hlt : k < n
    · obtain ⟨b, off, rfl, hbw, hcell⟩ := hc k hlt
      clear hc
      have hb1 := sum_take_bound l hv k (by have := HL.out; omega)
      have hb2 := sum_take_bound l hv (k + 1) (by have := HL.out; omega)
      rw [sum_take_succ l k (by have := HL.out; omega)] at hb2
      have hs := hid (sum_take_succ l k (by have := HL.out; omega))
      go_wp2
      go_round
      case rel => exact ⟨k + 1, by omega, by go_num, by rw [hs.out]⟩
      case measure => simp [intOf]; omega
    · go_wp2
      go_ret
      exact ⟨ret_int (by rw [List.take_of_length_le (by have := HL.out; omega)]), rfl⟩
theorem l_eqIntS_eq (a b : Option Addr) (n c d : Nat) (l l' : List Int) (w : World) (h : IntsAt w a n l) (h' : IntsAt w b n l') (hn : n ≤ 4194304) :
    Calls Try.prog 10 #[.slice a n c, .slice b n d] w fun e w' => e = .returned (.bool (decide (l = l'))) ∧ Below w.heap.size w w' := by
  obtain ⟨hl, hc⟩ := h
  obtain ⟨hl', hc'⟩ := h'
  have HL := hid hl
  have HL' := hid hl'
  clear hl hl'
  go_enter Try.func10, Try.ntmps10
  go_wp2
  go_loopw [5] (fun i wr => ∃ k t : Nat, k ≤ n ∧ i = .int .i64 k ∧ wr = w.drewN t ∧ l.take k = l'.take k) (fun i _ => n - (intOf i).toNat)
  case atStart => exact ⟨0, 0, Nat.zero_le _, rfl, rfl, by simp⟩
  case round =>
    obtain ⟨k, t, hk, rfl, rfl, heq⟩ := hrel
    have HE := hid heq
    clear heq
    by_cases hlt : k < n
    · obtain ⟨b1, off, rfl, hbw, hcell⟩ := hc k hlt
      obtain ⟨b2, off2, rfl, hbw2, hcell2⟩ := hc' k hlt
      clear hc hc'
      have e1 := hid (take_succ' l k (by have := HL.out; omega))
      have e2 := hid (take_succ' l' k (by have := HL'.out; omega))
      by_cases hx : l[k]?.getD 0 = l'[k]?.getD 0
      · have hx' : (l[k]?.getD 0 != l'[k]?.getD 0) = false := by simp [hx]
        have HX := hid hx
        clear hx
        go_wp2
        go_quiet (fail)
        go_wp2
        go_roundw
        case rel => exact ⟨k + 1, _, by omega, by go_num, rfl, by rw [e1.out, e2.out, HE.out, HX.out]⟩
        case measure => simp [intOf]; omega
      · have hx' : (l[k]?.getD 0 != l'[k]?.getD 0) = true := by simp [hx]
        go_wp2
        go_quiet (fail)
        go_wp2
        go_ret
        exact ⟨ret_bool (by symm; simp only [decide_eq_false_iff_not]; intro e; subst e; exact hx rfl), drew_drewN _ _⟩
    · go_wp2
      go_ret
      refine ⟨ret_bool ?_, bdraws _⟩
      have e := HE.out
      rw [List.take_of_length_le (by have := HL.out; omega), List.take_of_length_le (by have := HL'.out; omega)] at e
      simp [e]

theorem l_eqIntS (a b : Option Addr) (n m c d : Nat) (l l' : List Int) (w : World) (h : IntsAt w a n l) (h' : IntsAt w b m l') (hn : n ≤ 4194304) (hm : m ≤ 4194304) :
    Calls Try.prog 10 #[.slice a n c, .slice b m d] w fun e w' => e = .returned (.bool (decide (l = l'))) ∧ Below w.heap.size w w' := by
  by_cases hnm : n = m
  · subst hnm
    exact l_eqIntS_eq a b n c d l l' w h h' hn
  · have hne : decide (l = l') = false := by
      simp only [decide_eq_false_iff_not]; intro e; subst e; exact hnm (h.1.symm.trans h'.1)
    clear h h'
    have HN := hid hne
    clear hne
    go_enter Try.func10, Try.ntmps10
    go_wp2
    go_ret
    exact ⟨ret_bool HN.out.symm, Below.refl _ _⟩
theorem l_vInts_eq (a b : Option Addr) (n c d : Nat) (l l' : List Int) (w : World) (h : IntsAt w a n l) (h' : IntsAt w b n l') (hn : n ≤ 4194304) :
    Calls Try.prog 17 #[.slice a n c, .slice b n d] w fun e w' => e = .returned (.bool (decide (l = l'))) ∧ Below w.heap.size w w' := by
  obtain ⟨hl, hc⟩ := h
  obtain ⟨hl', hc'⟩ := h'
  have HL := hid hl
  have HL' := hid hl'
  clear hl hl'
  go_enter Try.func17, Try.ntmps17
  go_wp2
  go_loopw [5] (fun i wr => ∃ k t : Nat, k ≤ n ∧ i = .int .i64 k ∧ wr = w.drewN t ∧ l.take k = l'.take k) (fun i _ => n - (intOf i).toNat)
  case atStart => exact ⟨0, 0, Nat.zero_le _, rfl, rfl, by simp⟩
  case round =>
    obtain ⟨k, t, hk, rfl, rfl, heq⟩ := hrel
    have HE := hid heq
    clear heq
    by_cases hlt : k < n
    · obtain ⟨b1, off, rfl, hbw, hcell⟩ := hc k hlt
      obtain ⟨b2, off2, rfl, hbw2, hcell2⟩ := hc' k hlt
      clear hc hc'
      have e1 := hid (take_succ' l k (by have := HL.out; omega))
      have e2 := hid (take_succ' l' k (by have := HL'.out; omega))
      by_cases hx : l[k]?.getD 0 = l'[k]?.getD 0
      · have hx' : (l[k]?.getD 0 != l'[k]?.getD 0) = false := by simp [hx]
        have HX := hid hx
        clear hx
        go_wp2
        go_quiet (fail)
        go_wp2
        go_roundw
        case rel => exact ⟨k + 1, _, by omega, by go_num, rfl, by rw [e1.out, e2.out, HE.out, HX.out]⟩
        case measure => simp [intOf]; omega
      · have hx' : (l[k]?.getD 0 != l'[k]?.getD 0) = true := by simp [hx]
        go_wp2
        go_quiet (fail)
        go_wp2
        go_ret
        exact ⟨ret_bool (by symm; simp only [decide_eq_false_iff_not]; intro e; subst e; exact hx rfl), drew_drewN _ _⟩
    · go_wp2
      go_ret
      refine ⟨ret_bool ?_, bdraws _⟩
      have e := HE.out
      rw [List.take_of_length_le (by have := HL.out; omega), List.take_of_length_le (by have := HL'.out; omega)] at e
      simp [e]

theorem l_vInts (a b : Option Addr) (n m c d : Nat) (l l' : List Int) (w : World) (h : IntsAt w a n l) (h' : IntsAt w b m l') (hn : n ≤ 4194304) (hm : m ≤ 4194304) :
    Calls Try.prog 17 #[.slice a n c, .slice b m d] w fun e w' => e = .returned (.bool (decide (l = l'))) ∧ Below w.heap.size w w' := by
  by_cases hnm : n = m
  · subst hnm
    exact l_vInts_eq a b n c d l l' w h h' hn
  · have hne : decide (l = l') = false := by
      simp only [decide_eq_false_iff_not]; intro e; subst e; exact hnm (h.1.symm.trans h'.1)
    clear h h'
    have HN := hid hne
    clear hne
    go_enter Try.func17, Try.ntmps17
    go_wp2
    go_ret
    exact ⟨ret_bool HN.out.symm, Below.refl _ _⟩
theorem l_heldIntS (a : Option Addr) (n c : Nat) (k0 : Int) (w : World) (h : IntsAt w a n (marks k0 n)) (hn : n ≤ 4194304) (hk : 0 ≤ k0 ∧ k0 ≤ 1000000000000) :
    Calls Try.prog 14 #[.slice a n c, .int .i64 k0] w fun e w' => e = .returned (.int .i64 (k0 + n)) ∧ w = w' := by
  obtain ⟨hl, hc⟩ := h
  clear hl
  go_enter Try.func14, Try.ntmps14
  go_wp2
  go_loop [1, 5] (fun s i => ∃ k : Nat, k ≤ n ∧ i = .int .i64 k ∧ s = .int .i64 (k0 + k)) (fun _ i => n - (intOf i).toNat)
  case atStart => exact ⟨0, Nat.zero_le _, rfl, by simp⟩
  case round =>
    obtain ⟨k, hkn, rfl, rfl⟩ := hrel
    by_cases hlt : k < n
    · obtain ⟨b, off, rfl, hbw, hcell⟩ := hc k hlt
      clear hc
      rw [marks_get _ _ _ hlt] at hcell
      go_wp2
      go_round
      case rel => exact ⟨k + 1, by omega, by go_num, by congr 1; omega⟩
      case measure => simp [intOf]; omega
    · go_wp2
      go_ret
      exact ⟨ret_int (by omega), rfl⟩
theorem l_markIntS (a : Option Addr) (n c B : Nat) (l : List Int) (k0 : Int) (w : World) (h : OwnI w B (.slice a n c) l) (hn : n ≤ 4194304) (hk : 0 ≤ k0 ∧ k0 ≤ 1000000000000) :
    Calls Try.prog 13 #[.slice a n c, .int .i64 k0] w fun e w' => e = .returned (.int .i64 (k0 + n)) ∧ OwnI w' B (.slice a n c) (marks k0 n) ∧ w.grownBy w' (Value.ownBlock (.slice a n c)) := by
  rcases h.2 with ⟨h1, h0⟩ | ⟨g, cap, cur, h1, hB, hg, hnc, hm, hs, ht⟩
  · simp only [Value.slice.injEq] at h1
    obtain ⟨rfl, rfl, rfl⟩ := h1
    go_enter Try.func13, Try.ntmps13
    go_wp2
    refine wp_loop_rounds 1 ?_
    rw [rounds_succ]
    go_wp2
    go_ret
    exact ⟨ret_int (by simp), World.ownsRow_nil _ _ _ _, World.grownBy.refl _ _⟩
  · simp only [Value.slice.injEq] at h1
    obtain ⟨rfl, rfl, rfl⟩ := h1
    clear hg hs ht hm hnc hB
    have H := hid h
    clear h
    have HN := hid (rfl : l.length = l.length)
    revert H HN
    generalize hN : l.length = N at hn ⊢
    intro H _
    go_enter Try.func13, Try.ntmps13
    go_wp2
    go_loopw [1, 5] (fun s i wr => ∃ (k : Nat) (l' : List Int), k ≤ N ∧ i = .int .i64 k ∧ s = .int .i64 (k0 + k) ∧ Hid (OwnI wr B (.slice (some ⟨g, 0, none⟩) N c) l' ∧ l'.length = N ∧ (∀ j, j < k → l'[j]?.getD 0 = k0 + j) ∧ w.grownBy wr (some g))) (fun _ i _ => N - (intOf i).toNat)
    case atStart => exact ⟨0, l, Nat.zero_le _, rfl, by simp, H.out, hN, fun j hj => absurd hj (by omega), World.grownBy.refl _ _⟩
    case round =>
      obtain ⟨k, l', hkn, rfl, rfl, hh⟩ := hrel
      by_cases hlt : k < N
      · have hcell := hh.out.1.cell (k := k) hlt
        have hfr := hh.out.1.frozen (k := k)
        go_wp2
        go_roundw
        case rel =>
          refine ⟨k + 1, l'.set k (k0 + k), by omega, by go_num, by congr 1; omega, (hh.out.1.set _).1, by rw [List.length_set]; exact hh.out.2.1, ?_, grownBy_trans hh.out.2.2.2 (hh.out.1.set _).2⟩
          intro j hj
          have hle := hh.out.2.1
          by_cases e : k = j
          · subst e; rw [List.getElem?_set_self (by omega)]; rfl
          · rw [List.getElem?_set_ne e]; exact hh.out.2.2.1 j (by omega)
        case measure => simp [intOf]; omega
      · go_wp2
        go_ret
        have hkN : k = N := by omega
        refine ⟨ret_int (by omega), ?_, hh.out.2.2.2⟩
        subst hkN
        exact (marks_ext hh.out.2.1 hh.out.2.2.1) ▸ hh.out.1

theorem i_copyInts (a : Option Addr) (n c : Nat) (l : List Int) (w : World) (h : IntsAt w a n l) (hn : n ≤ 4194304) :
    Calls Try.prog 86 #[.slice a n c] w fun e w' => ∃ a' c', e = .returned (.slice a' n c') ∧ OwnI w' w.heap.size (.slice a' n c') l ∧ Below w.heap.size w w' := by
  have H := hid h
  clear h
  go_enter Try.func86, Try.ntmps86
  go_wp2_with (at_builtin; refine wp_append_ints _ rfl _ _ rfl w.heap.size _ [] rfl (OwnI.lit0 w) a n c l rfl (H.out.below ((Below.refl _ _).alloc (Nat.le_refl _) _)) n (by simp) (by omega) (by simp) ?_)
  intro a' c' w' hown hgrow _
  have HO := hid hown
  have HG := hid hgrow
  clear hown hgrow
  go_wp2
  go_ret
  exact ⟨_, _, rfl, HO.out, ((Below.refl _ _).alloc (Nat.le_refl _) _).grown HG.out (by simp) (fun k hk => by simp [Value.ownBlock] at hk; omega)⟩
theorem s_l1Own (a : Option Addr) (n c : Nat) (l : List Int) (w : World) (h : IntsAt w a n l) (hn : n ≤ 4194304) :
    Calls Try.prog 79 #[.slice a n c] w fun e w' => ∃ a' c', e = .returned (.slice a' n c') ∧ OwnI w' w.heap.size (.slice a' n c') l ∧ Below w.heap.size w w' := by
  have H := hid h
  clear h
  go_enter Try.func79, Try.ntmps79
  go_wp2_with (at_builtin; refine wp_append_ints _ rfl _ _ rfl w.heap.size _ [] rfl (OwnI.lit0 w) a n c l rfl (H.out.below ((Below.refl _ _).alloc (Nat.le_refl _) _)) n (by simp) (by omega) (by simp) ?_)
  intro a' c' w' hown hgrow _
  have HO := hid hown
  have HG := hid hgrow
  clear hown hgrow
  go_wp2
  go_ret
  exact ⟨_, _, rfl, HO.out, ((Below.refl _ _).alloc (Nat.le_refl _) _).grown HG.out (by simp) (fun k hk => by simp [Value.ownBlock] at hk; omega)⟩
theorem l_toIntS (a : Option Addr) (n c : Nat) (l : List Int) (w : World) (h : IntsAt w a n l) (hn : n ≤ 4194304) :
    Calls Try.prog 8 #[.slice a n c] w fun e w' => ∃ a' c', e = .returned (.slice a' n c') ∧ OwnI w' w.heap.size (.slice a' n c') l ∧ Below w.heap.size w w' := by
  obtain ⟨i0, hi, hz0, hz1, hz2⟩ := info_parts Try.infoInt
  have H := hid h
  clear h
  have HI := hid hi
  have HZ := hid hz0
  have HZ1 := hid hz1
  have HZ2 := hid hz2
  clear hi hz0 hz1 hz2
  go_enter Try.func8, Try.ntmps8
  go_wp2_with (at_make; refine wpList_make_full _ rfl _ _ 25 rfl w.heap.size 3 i0 (.int .i64 0) 1 Try.underlying25 HI.out HZ.out HZ1.out _ _ _ _ n rfl rfl rfl rfl ?b2 ?b3 ?b4 ?_)
  case b2 => rw [HZ2.out]; omega
  case b3 => unfold maxLen; omega
  case b4 => exact Nat.le_refl _
  intro w1 hown hgrow
  have ho := OwnI.made hown
  have HO := hid ho
  have HB := hid (below_of_grown hgrow (Nat.le_refl _) (fun k hk => by simp at hk))
  clear hown ho hgrow
  go_wp2
  go_loopw [4] (fun i wr => ∃ (k : Nat) (l' : List Int), k ≤ n ∧ i = .int .i64 k ∧ Hid (OwnI wr w.heap.size (.slice (some ⟨w.heap.size, 0, none⟩) n n) l' ∧ l'.take k = l.take k ∧ Below w.heap.size w wr)) (fun i _ => n - (intOf i).toNat)
  case atStart => exact ⟨0, List.replicate n 0, Nat.zero_le _, rfl, HO.out, by simp, HB.out⟩
  case round =>
    obtain ⟨k, l', hk, rfl, hh⟩ := hrel
    clear HO HB
    by_cases hlt : k < n
    · obtain ⟨b, off, rfl, hbw, hcell⟩ := (H.out.below hh.out.2.2).2 k hlt
      have hcell2 := hh.out.1.cell (k := k) hlt
      have hfr := hh.out.1.frozen (k := k)
      go_wp2
      go_roundw
      case rel =>
        refine ⟨k + 1, l'.set k (l[k]?.getD 0), by omega, by go_num, (hh.out.1.set _).1, ?_, hh.out.2.2.grown (hh.out.1.set (k := k) (l[k]?.getD 0)).2 hh.out.2.2.size (fun q hq => by simp at hq; omega)⟩
        have hl := hh.out.1.len
        have hl2 := H.out.1
        rw [take_succ' l k (by omega), take_succ' _ k (by rw [List.length_set]; omega), List.take_set, List.getElem?_set_self (by omega), ← hh.out.2.1, List.set_eq_of_length_le (by rw [List.length_take]; omega)]
        rfl
      case measure => simp [intOf]; omega
    · go_wp2
      go_ret
      have hl := hh.out.1.len
      have hl2 := H.out.1
      have e := hh.out.2.1
      rw [List.take_of_length_le (by omega), List.take_of_length_le (by omega)] at e
      exact ⟨_, _, rfl, e ▸ hh.out.1, hh.out.2.2⟩

end Go.Proofs.Ytikjighlnpdgiaa

/-
  A number in a range.
-/
set_option linter.unusedVariables false
set_option linter.unusedSimpArgs false
namespace Go.Proofs.Ytikjighlnpdgiaa
open Go.RowKit

def inR (n lo hi : Int) : Bool := decide (lo ≤ n ∧ n ≤ hi)
theorem inR_iff {n lo hi : Int} : inR n lo hi = true ↔ lo ≤ n ∧ n ≤ hi := by simp [inR]
theorem inR_no {n lo hi : Int} : inR n lo hi = false ↔ ¬ (lo ≤ n ∧ n ≤ hi) := by simp [inR]

theorem i_inside (n lo hi : Int) (w : World) : Calls Try.prog 64 #[.int .i64 n, .int .i64 lo, .int .i64 hi] w fun e w' => e = .returned (.bool (inR n lo hi)) ∧ w = w' := by
  go_enter Try.func64, Try.ntmps64
  go_wp2
  all_goals go_ret
  all_goals exact ⟨ret_bool (by simp [inR] <;> omega), rfl⟩
theorem s_l1In (n lo hi : Int) (w : World) : Calls Try.prog 73 #[.int .i64 n, .int .i64 lo, .int .i64 hi] w fun e w' => e = .returned (.bool (inR n lo hi)) ∧ w = w' := by
  go_enter Try.func73, Try.ntmps73
  go_wp2
  all_goals go_ret
  all_goals exact ⟨ret_bool (by simp [inR] <;> omega), rfl⟩

end Go.Proofs.Ytikjighlnpdgiaa

