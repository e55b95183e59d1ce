/-
  Texts of this claim, joined: Base, Range, SRows, PipeA, Calm, NetA, NetR.
-/
import Derived.Test.YtikjighlnpdgiaaProg
import Derived.WalkKit
import Derived.WalkSpells
import Derived.WalkLawsBesides
import Derived.Handy
import Derived.Deep.QuietTactic
import Derived.BigQuiet
import Derived.Deep.RegionHeld3
import Derived.Deep.RegionWith
import Derived.Deep.DeepFit
import Derived.Deep.LoopGhost
import Derived.Deep.DeepCutAuto
import Derived.Deep.DeepMust
/-
  Small laws on memory and lists that the walks of this seat share.
-/
set_option linter.unusedVariables false
namespace Go.Proofs.Ytikjighlnpdgiaa
open Go.RowKit

theorem hid {p : Prop} (h : p) : Hid p := h

theorem bcell {W w1 : World} (hb : Below W.heap.size W w1) : (∀ b o, b < W.heap.size → w1.cell? ⟨b, o, none⟩ = W.cell? ⟨b, o, none⟩) ∧ (∀ b o, b < W.heap.size → w1.frozen? ⟨b, o, none⟩ = W.frozen? ⟨b, o, none⟩) :=
  ⟨fun b o h => hb.cell (p := ⟨b, o, none⟩) h, fun b o h => hb.frozen (p := ⟨b, o, none⟩) h⟩

theorem bstep {w a b : World} (h : Below w.heap.size w a) (k : Below a.heap.size a b) : Below w.heap.size w b := h.trans (k.mono h.size)
theorem bdraws {B : Nat} {w : World} (n : Nat) : Below B w (w.drewN n) := below_drewN (Below.refl _ _) n

theorem ret_bool {a b : Bool} (h : a = b) : Ending.returned (.bool a) = .returned (.bool b) := by rw [h]
theorem ret_int {k : IntKind} {a b : Int} (h : a = b) : Ending.returned (.int k a) = .returned (.int k b) := by rw [h]
theorem ret_int_bool {k : IntKind} {a b : Int} {x y : Bool} (h : a = b) (h' : x = y) : Ending.returned (.tuple #[.int k a, .bool x]) = .returned (.tuple #[.int k b, .bool y]) := by rw [h, h']

/-- A slice of numbers that can be read: its cells hold the list. -/
def IntsAt (w : World) (a : Option Addr) (n : Nat) (l : List Int) : Prop :=
  l.length = n ∧ ∀ k, k < n → ∃ b off, a = some ⟨b, off, none⟩ ∧ b < w.heap.size ∧ w.cell? ⟨b, off + k, none⟩ = some (.int .i64 (l[k]?.getD 0))

theorem IntsAt.below {w w' : World} {a : Option Addr} {n : Nat} {l : List Int} (h : IntsAt w a n l) (hb : Below w.heap.size w w') : IntsAt w' a n l :=
  ⟨h.1, fun k hk => let ⟨b, off, h1, h2, h3⟩ := h.2 k hk; ⟨b, off, h1, Nat.lt_of_lt_of_le h2 hb.size, (hb.cell (p := ⟨b, off + k, none⟩) h2).trans h3⟩⟩

theorem IntsAt.nil (w : World) (a : Option Addr) : IntsAt w a 0 [] := ⟨rfl, fun k hk => absurd hk (by omega)⟩

theorem IntsAt.congr {w : World} {a : Option Addr} {n m : Nat} {l l' : List Int} (h : IntsAt w a n l) (e : n = m) (e' : l = l') : IntsAt w a m l' := by subst e; subst e'; exact h

theorem getD_mem (l : List Int) (k : Nat) (h : k < l.length) : l[k]?.getD 0 ∈ l := by
  rw [List.getElem?_eq_getElem h]; exact List.getElem_mem h

theorem take_succ' (zs : List Int) (k : Nat) (hk : k < zs.length) : zs.take (k + 1) = zs.take k ++ [zs[k]?.getD 0] := by
  rw [List.take_add_one, List.getElem?_eq_getElem hk]; rfl

theorem sum_take_succ (l : List Int) (k : Nat) (hk : k < l.length) : (l.take (k + 1)).sum = (l.take k).sum + l[k]?.getD 0 := by
  rw [take_succ' l k hk]; simp

def Big : Int := 1000000000000

theorem sum_take_bound (l : List Int) (hv : ∀ x ∈ l, -1000000000000 ≤ x ∧ x ≤ 1000000000000) : ∀ k, k ≤ l.length → -(1000000000000 * (k : Int)) ≤ (l.take k).sum ∧ (l.take k).sum ≤ 1000000000000 * (k : Int)
  | 0, _ => by simp
  | k + 1, hk => by
    have ih := sum_take_bound l hv k (by omega)
    rw [sum_take_succ l k (by omega)]
    have := hv _ (getD_mem l k (by omega))
    omega

theorem drew_drewN {B : Nat} {w : World} (t q : Nat) : Below B w ((w.drewN t).drewN q) := below_drewN (below_drewN (Below.refl _ _) t) q

/-- A slice of numbers of the call's own: its row holds the list. -/
def OwnI (w : World) (B : Nat) (v : Value) (l : List Int) : Prop := w.ownsRow B 3 1 v l.length (l.map (Value.int .i64))

theorem OwnI.form {w : World} {B : Nat} {v : Value} {l : List Int} (h : OwnI w B v l) : ∃ a c, v = .slice a l.length c := by
  rcases h.2 with ⟨rfl, h0⟩ | ⟨g, cap, cur, rfl, _⟩
  · exact ⟨none, 0, by rw [h0]⟩
  · exact ⟨_, _, rfl⟩

theorem OwnI.at {w : World} {B : Nat} {a : Option Addr} {n c : Nat} {l : List Int} (h : OwnI w B (.slice a n c) l) : IntsAt w a n l := by
  have h' := h
  unfold OwnI at h
  rcases h.2 with ⟨h1, h0⟩ | ⟨g, cap, cur, h1, hB, hg, hnc, hm, hs, ht⟩
  · simp only [Value.slice.injEq] at h1
    obtain ⟨rfl, rfl, rfl⟩ := h1
    have : l = [] := List.eq_nil_of_length_eq_zero h0
    subst this
    exact IntsAt.nil _ _
  · simp only [Value.slice.injEq] at h1
    obtain ⟨rfl, rfl, rfl⟩ := h1
    refine ⟨rfl, fun k hk => ⟨g, 0, rfl, (Array.getElem?_eq_some_iff.1 hg).1, ?_⟩⟩
    have := World.ownsRow.cellAt h' k (by simpa using hk)
    rw [Nat.zero_add, this, List.getElem?_map, List.getElem?_eq_getElem hk]
    rfl

theorem OwnI.below {w w' : World} {B : Nat} {v : Value} {l : List Int} (h : OwnI w B v l) (hb : Below w.heap.size w w') : OwnI w' B v l := by
  refine ⟨h.1, ?_⟩
  rcases h.2 with h2 | ⟨g, cap, cur, hv, hg, hh, r⟩
  · exact Or.inl h2
  · exact Or.inr ⟨g, cap, cur, hv, hg, by rw [hb.block g (Array.getElem?_eq_some_iff.1 hh).1]; exact hh, r⟩

theorem OwnI.mono {w : World} {B B' : Nat} {v : Value} {l : List Int} (h : OwnI w B v l) (hb : B' ≤ B) : OwnI w B' v l := by
  refine ⟨h.1, ?_⟩
  rcases h.2 with h2 | ⟨g, cap, cur, hv, hg, r⟩
  · exact Or.inl h2
  · exact Or.inr ⟨g, cap, cur, hv, Nat.le_trans hb hg, r⟩

/-- The block of a slice of the call's own lies from the base on, and is there. -/
theorem OwnI.lt {w : World} {B : Nat} {v : Value} {l : List Int} (h : OwnI w B v l) : ∀ k, v.ownBlock = some k → B ≤ k ∧ k < w.heap.size := World.ownsRow.lt h

theorem OwnI.kept {w w' : World} {B : Nat} {v : Value} {l : List Int} {row : Option Nat} (h : OwnI w B v l) (hg : w.grownBy w' row) (hne : v.ownBlock = none ∨ v.ownBlock ≠ row) : OwnI w' B v l := World.ownsRow.kept h hg hne

theorem OwnI.congr {w : World} {B : Nat} {v : Value} {l l' : List Int} (h : OwnI w B v l) (e : l = l') : OwnI w B v l' := by subst e; exact h

theorem IntsAt.kept {w w' : World} {a : Option Addr} {n : Nat} {l : List Int} {row : Option Nat} (h : IntsAt w a n l) (hg : w.grownBy w' row) (hne : ∀ b off, a = some ⟨b, off, none⟩ → some b ≠ row) : IntsAt w' a n l :=
  ⟨h.1, fun k hk => let ⟨b, off, h1, h2, h3⟩ := h.2 k hk; ⟨b, off, h1, Nat.lt_of_lt_of_le h2 hg.size, hg.cell h3 (hne b off h1)⟩⟩

theorem OwnI.len {w : World} {B : Nat} {a : Option Addr} {n c : Nat} {l : List Int} (h : OwnI w B (.slice a n c) l) : l.length = n := h.at.1

theorem OwnI.row {w : World} {B : Nat} {a : Option Addr} {n c : Nat} {l : List Int} (h : OwnI w B (.slice a n c) l) : w.ownsRow B 3 1 (.slice a n c) n (l.map (Value.int .i64)) := by
  have e := h.len; unfold OwnI at h; rw [e] at h; exact h

theorem OwnI.of_row {w : World} {B : Nat} {v : Value} {n : Nat} {l : List Int} (h : w.ownsRow B 3 1 v n (l.map (Value.int .i64))) : OwnI w B v l := by
  have e : n = l.length := by have := h.1; simpa using this.symm
  subst e; exact h

theorem OwnI.cell {w : World} {B g k n c : Nat} {l : List Int} (h : OwnI w B (.slice (some ⟨g, 0, none⟩) n c) l) (hk : k < n) : w.cell? ⟨g, k, none⟩ = some (.int .i64 (l[k]?.getD 0)) := by
  rw [World.ownsRow.cellAt h.row k (by simpa using hk), List.getElem?_map, List.getElem?_eq_getElem (by rw [h.len]; exact hk)]; rfl

theorem OwnI.frozen {w : World} {B g k n c : Nat} {l : List Int} (h : OwnI w B (.slice (some ⟨g, 0, none⟩) n c) l) : w.frozen? ⟨g, k, none⟩ = false := World.ownsRow.frozenAt h.row k

theorem OwnI.set {w : World} {B g k n c : Nat} {l : List Int} (h : OwnI w B (.slice (some ⟨g, 0, none⟩) n c) l) (x : Int) :
    OwnI (w.setCell ⟨g, k, none⟩ (.int .i64 x)) B (.slice (some ⟨g, 0, none⟩) n c) (l.set k x) ∧ w.grownBy (w.setCell ⟨g, k, none⟩ (.int .i64 x)) (some g) := by
  obtain ⟨h1, h2⟩ := World.ownsRow.stored h.row k (.int .i64 x)
  refine ⟨OwnI.of_row (n := n) ?_, h2⟩
  rw [List.map_set]; exact h1

theorem grownBy_trans {w a b : World} {row : Option Nat} (h : w.grownBy a row) (k : a.grownBy b row) : w.grownBy b row :=
  ⟨k.os.trans h.os, k.tape.trans h.tape, k.output.trans h.output, Nat.le_trans h.size k.size, fun i hi hr => (k.block i (Nat.lt_of_lt_of_le hi h.size) hr).trans (h.block i hi hr)⟩

theorem below_of_grown {B : Nat} {w w' : World} {row : Option Nat} (hg : w.grownBy w' row) (hB : B ≤ w.heap.size) (hr : ∀ k, row = some k → B ≤ k) : Below B w w' :=
  (Below.refl B w).grown hg hB hr

theorem grown_of_below {w w' : World} (hb : Below w.heap.size w w') (row : Option Nat) : w.grownBy w' row :=
  ⟨hb.os, hb.tape, hb.output, hb.size, fun k hk _ => hb.block k hk⟩

theorem Try.infoInt : (Try.prog.info? 3).map (fun i => (i.zero, i.size, i.bytes)) = some (some (.int .i64 0), 1, 8) := by kernel_rfl

theorem OwnI.alloc {w : World} {B : Nat} {v : Value} {l : List Int} (h : OwnI w B v l) (o : Obj) : OwnI (w.alloc o) B v l := World.ownsRow.alloc h o

theorem OwnI.lit0 (w : World) : OwnI (w.alloc (.cells #[] 3)) w.heap.size (.slice (some ⟨w.heap.size, 0, none⟩) 0 0) [] :=
  World.ownsRow_lit w #[] 0 (Nat.le_refl _) (Nat.zero_le _) rfl

theorem OwnI.nil (w : World) (B : Nat) : OwnI w B (.slice none 0 0) [] := World.ownsRow_nil _ _ _ _

theorem IntsAt.single (w : World) (x : Int) : IntsAt (w.alloc (.cells #[.int .i64 x] 3)) (some ⟨w.heap.size, 0, none⟩) 1 [x] := by
  refine ⟨rfl, fun k hk => ⟨w.heap.size, 0, rfl, by simp, ?_⟩⟩
  obtain rfl : k = 0 := by omega
  rw [World.cell?_alloc_at _ _ _ _ rfl]; rfl

theorem run_append_none {P : Program} (w : World) (base : Nat) (t ty e : TypeId) (i : TypeInfo) (size c : Nat) (ht : P.underlying t = some (.slice e)) (hi : P.info? e = some i)
    (v : Value) (n : Nat) (xs : List Value) (hown : w.ownsRow base e size v n xs) :
    (Builtin.append_ #[t, t] ty #[v, .slice none 0 c]).run P w = .ok v w := by
  rcases hown.2 with ⟨rfl, rfl⟩ | ⟨g, cap, cur, rfl, _, _, hnc, _⟩
  · simp [Builtin.append_, run_underlying ht, sizeOf, typeInfo, hi, Builtin.lenOf, Builtin.firstCells]
  · simp [Builtin.append_, run_underlying ht, sizeOf, typeInfo, hi, Builtin.lenOf, Builtin.firstCells, hnc, storeCells]

/-- What an append may read: a slice whose cells are known. -/
def CellsAt (w : World) (ax : Option Addr) (m : Nat) (size : Nat) (news : List Value) : Prop :=
  news.length = m * size ∧ (ax = none → m = 0) ∧ (∀ ad, ax = some ad → ∀ j u, news[j]? = some u → w.cell? (ad.add j) = some u) ∧ ∀ u ∈ news, u.oneCell' = true

theorem addr_add (b off j : Nat) : (⟨b, off, none⟩ : Addr).add j = ⟨b, off + j, none⟩ := by
  unfold Addr.add; split
  · rename_i h; subst h; rfl
  · rfl

theorem IntsAt.cells {w : World} {a : Option Addr} {n : Nat} {l : List Int} (h : IntsAt w a n l) : CellsAt w a n 1 (l.map (Value.int .i64)) := by
  refine ⟨by simp [h.1], ?_, ?_, ?_⟩
  · intro ha
    by_cases hn : n = 0
    · exact hn
    · obtain ⟨b, off, h1, _⟩ := h.2 0 (by omega)
      rw [ha] at h1; cases h1
  · intro ad ha j u hu
    by_cases hj : j < n
    · obtain ⟨b, off, h1, h2, h3⟩ := h.2 j hj
      rw [ha] at h1; cases h1
      rw [addr_add, h3]
      rw [List.getElem?_map] at hu
      cases hq : l[j]? with
      | none => rw [hq] at hu; cases hu
      | some x => rw [hq] at hu; simpa using hu
    · rw [List.getElem?_eq_none (by simp [h.1]; omega)] at hu; cases hu
  · intro u hu
    obtain ⟨x, _, rfl⟩ := List.mem_map.1 hu
    rfl

/-- Behind an append the row lies where it lay, or in a new block. -/
theorem append_block {P : Program} (w : World) (base : Nat) (t ty e : TypeId) (i : TypeInfo) (z : Value) (size bytes : Nat) (ht : P.underlying t = some (.slice e)) (hi : P.info? e = some i) (hz : i.zero = some z)
    (hsize : i.size = size) (hby : i.bytes = bytes)
    (v : Value) (n : Nat) (xs : List Value) (hown : w.ownsRow base e size v n xs)
    (ad : Addr) (m c : Nat) (news : List Value) (hl : news.length = m * size) (hnews : ∀ j u, news[j]? = some u → w.cell? (ad.add j) = some u) (h1 : ∀ u ∈ news, u.oneCell' = true)
    (h63 : n + m ≤ maxLen) (hbytes : (n + m) * bytes ≤ 140737488355328) {v' : Value} {w' : World}
    (h : (Builtin.append_ #[t, t] ty #[v, .slice (some ad) m c]).run P w = .ok v' w') : v'.ownBlock = v.ownBlock ∨ v'.ownBlock = some w.heap.size := by
  subst hsize
  subst hby
  have hsmall : n + m ≤ 9223372036854775807 := by simp only [maxLen] at h63; omega
  rcases hown.2 with ⟨rfl, rfl⟩ | ⟨g, cap, cur, rfl, hbg, hg, hnc, hcm, hcs, htake⟩
  · by_cases hm : m = 0
    · subst hm
      have hn : news = [] := List.eq_nil_of_length_eq_zero (by simpa using hl)
      subst hn
      have hr : (Builtin.append_ #[t, t] ty #[.slice none 0 0, .slice (some ad) 0 c]).run P w = .ok (.slice none 0 0) w := by
        simp [Builtin.append_, run_underlying ht, sizeOf, typeInfo, hi, Builtin.lenOf, Builtin.firstCells, loadCells, loadCellsFrom]
      rw [hr] at h
      injection h with h2 _
      subst h2
      exact Or.inl rfl
    · have hr := run_append_nil (P := P) w t ty e i z ht hi hz ad m c news hl hnews (by omega) (by omega) (by have hb := hbytes; simp only [Nat.zero_add] at hb; omega)
      rw [hr] at h
      injection h with h2 _
      subst h2
      exact Or.inr rfl
  · by_cases hroom : n + m ≤ cap
    · have hfit : n * i.size + news.length ≤ cur.size := by rw [hl, hcs, ← Nat.add_mul]; exact Nat.mul_le_mul_right _ hroom
      have hr := run_append_room (P := P) w t ty e i ht hi g n cap cur hg ad m c news hl hnews h1 hroom hfit
      rw [hr] at h
      injection h with h2 _
      subst h2
      exact Or.inl rfl
    · have holds : ∀ j u, xs[j]? = some u → w.cell? ((⟨g, 0, none⟩ : Addr).add j) = some u := hown.cells (g := g) rfl
      have hr := run_append_grow (P := P) w t ty e i z ht hi hz ⟨g, 0, none⟩ n cap xs hown.1 holds ad m c news hl hnews (by omega) (by omega) (growslice_fits (by omega) hbytes)
      rw [hr] at h
      injection h with h2 _
      subst h2
      exact Or.inr rfl

theorem wp_append_cells {P : Program} {ops : Array Oper} {rest : List Oper} {o : Oper} {a : Act} {Q : Exit → Act → World → Prop} (w : World) (hgd : o.guard = none) (s x : Operand) (t : TypeId)
    (ho : o.op = .call { callee := .builtin .append, args := #[s, x], argTypes := #[t, t] })
    (base : Nat) (e : TypeId) (i : TypeInfo) (z : Value) (size bytes : Nat) (ht : P.underlying t = some (.slice e)) (hi : P.info? e = some i) (hz : i.zero = some z)
    (hsize : i.size = size) (hby : i.bytes = bytes) (hzs : z.cells.size = size) (hsz : 0 < size)
    (v : Value) (n : Nat) (xs : List Value) (hs : a.eval s = v) (hown : w.ownsRow base e size v n xs)
    (ax : Option Addr) (m c : Nat) (news : List Value) (hx : a.eval x = .slice ax m c) (hat : CellsAt w ax m size news)
    (h63 : n + m ≤ maxLen) (hbytes : (n + m) * bytes ≤ 140737488355328) (hbase : base ≤ w.heap.size)
    (h : ∀ v' w', w'.ownsRow base e size v' (n + m) (xs ++ news) → w.grownBy w' v.ownBlock → (v'.ownBlock = v.ownBlock ∨ v'.ownBlock = some w.heap.size) → wpList P ops Q rest (a.put o.dst v') w') : wpList P ops Q (o :: rest) a w := by
  obtain ⟨h1, h2, h3, h4⟩ := hat
  cases ax with
  | some ad =>
    obtain ⟨v', w', hrun, k1, k2, _⟩ := run_append_own (P := P) w base t o.type e i z size bytes ht hi hz hsize hby hzs hsz v n xs hown ad m c news h1 (h3 ad rfl) h4 h63 hbytes hbase
    have k3 := append_block w base t o.type e i z size bytes ht hi hz hsize hby v n xs hown ad m c news h1 (h3 ad rfl) h4 h63 hbytes hrun
    refine wpList_plain hgd fun K hK => ?_
    unfold Oper.wp
    simp [execOp, ho, resolve, invoke, builtin, hs, hx, hrun, Result.andThen]
    exact hK _ _ (h v' w' k1 k2 k3)
  | none =>
    obtain rfl := h2 rfl
    have hnews : news = [] := List.eq_nil_of_length_eq_zero (by simpa using h1)
    subst hnews
    refine wpList_plain hgd fun K hK => ?_
    have hrun := run_append_none (P := P) w base t o.type e i size c ht hi v n xs hown
    unfold Oper.wp
    simp [execOp, ho, resolve, invoke, builtin, hs, hx, hrun, Result.andThen]
    refine hK _ _ (h v w ?_ (World.grownBy.refl _ _) (Or.inl rfl))
    simpa using hown

theorem wp_append_ints {ops : Array Oper} {rest : List Oper} {o : Oper} {a : Act} {Q : Exit → Act → World → Prop} (w : World) (hgd : o.guard = none) (s x : Operand)
    (ho : o.op = .call { callee := .builtin .append, args := #[s, x], argTypes := #[25, 25] })
    (B : Nat) (v : Value) (l : List Int) (hs : a.eval s = v) (hown : OwnI w B v l)
    (ax : Option Addr) (m c : Nat) (l2 : List Int) (hx : a.eval x = .slice ax m c) (hat : IntsAt w ax m l2)
    (N : Nat) (hN : l.length + m = N) (hb : N ≤ 1099511627776) (hB : B ≤ w.heap.size)
    (h : ∀ a' c' w', OwnI w' B (.slice a' N c') (l ++ l2) → w.grownBy w' v.ownBlock → (Value.ownBlock (.slice a' N c') = v.ownBlock ∨ Value.ownBlock (.slice a' N c') = some w.heap.size) → wpList Try.prog ops Q rest (a.put o.dst (.slice a' N c')) w') : wpList Try.prog ops Q (o :: rest) a w := by
  obtain ⟨i0, hi, hz0, hz1, hz2⟩ := info_parts Try.infoInt
  refine wp_append_cells w hgd s x 25 ho B 3 i0 (.int .i64 0) 1 8 Try.underlying25 hi hz0 hz1 hz2 rfl (by decide) v l.length _ hs hown ax m c _ hx hat.cells (by unfold maxLen; omega) (by omega) hB ?_
  intro v' w' h1 h2 h3
  have ho : OwnI w' B v' (l ++ l2) := OwnI.of_row (n := l.length + m) (by rw [List.map_append]; exact h1)
  obtain ⟨a', c', rfl⟩ := ho.form
  have e : (l ++ l2).length = N := by rw [List.length_append, hat.1]; exact hN
  rw [e] at ho h3 ⊢
  exact h a' c' w' ho h2 h3

theorem OwnI.made {w : World} {B n : Nat} {v : Value} (h : w.ownsRow B 3 1 v n (madeCells #[Value.int IntKind.i64 0] n).toList) : OwnI w B v (List.replicate n 0) := by
  refine OwnI.of_row (n := n) ?_
  rw [toList_madeCells_one] at h
  rw [List.map_replicate]; exact h

/-- The numbers that a mark leaves. -/
def marks (k : Int) (n : Nat) : List Int := (List.range n).map (fun i : Nat => k + (i : Int))
theorem marks_length (k : Int) (n : Nat) : (marks k n).length = n := by simp [marks]
theorem marks_ext {k : Int} {n : Nat} {l : List Int} (hl : l.length = n) (h : ∀ j, j < n → l[j]?.getD 0 = k + j) : l = marks k n := by
  apply List.ext_getElem (by rw [hl, marks_length])
  intro i h1 h2
  have := h i (by omega)
  rw [List.getElem?_eq_getElem h1] at this
  simpa [marks] using this
theorem marks_get (k : Int) (n i : Nat) (h : i < n) : (marks k n)[i]?.getD 0 = k + i := by simp [marks, h]

theorem quiet_eq {P : Program} {f : FuncId} {args : Array Value} {w : World} {n : Nat} {v : Value}
    (h : Calls P f args (w.drewN n) fun e w' => e = .returned v ∧ w.drewN n = w') : Calls P f args (w.drewN n) fun e w'' => e = .returned v ∧ ∃ m, w'' = w.drewN m :=
  h.mono fun _ _ ⟨he, hm⟩ => ⟨he, n, hm.symm⟩

end Go.Proofs.Ytikjighlnpdgiaa

/-
  A number in a range.
-/
set_option linter.unusedVariables false
set_option linter.unusedSimpArgs false
namespace Go.Proofs.Ytikjighlnpdgiaa
open Go.RowKit

def inR (n lo hi : Int) : Bool := decide (lo ≤ n ∧ n ≤ hi)
theorem inR_iff {n lo hi : Int} : inR n lo hi = true ↔ lo ≤ n ∧ n ≤ hi := by simp [inR]
theorem inR_no {n lo hi : Int} : inR n lo hi = false ↔ ¬ (lo ≤ n ∧ n ≤ hi) := by simp [inR]

theorem i_inside (n lo hi : Int) (w : World) : Calls Try.prog 64 #[.int .i64 n, .int .i64 lo, .int .i64 hi] w fun e w' => e = .returned (.bool (inR n lo hi)) ∧ w = w' := by
  go_enter Try.func64, Try.ntmps64
  go_wp2
  all_goals go_ret
  all_goals exact ⟨ret_bool (by simp [inR] <;> omega), rfl⟩
theorem s_l1In (n lo hi : Int) (w : World) : Calls Try.prog 73 #[.int .i64 n, .int .i64 lo, .int .i64 hi] w fun e w' => e = .returned (.bool (inR n lo hi)) ∧ w = w' := by
  go_enter Try.func73, Try.ntmps73
  go_wp2
  all_goals go_ret
  all_goals exact ⟨ret_bool (by simp [inR] <;> omega), rfl⟩

end Go.Proofs.Ytikjighlnpdgiaa

/-
  Small laws on slices of structs whose fields are all of one cell.
-/
set_option linter.unusedVariables false
set_option linter.unusedSimpArgs false
set_option linter.unusedSectionVars false
namespace Go.Proofs.Ytikjighlnpdgiaa
open Go.RowKit

theorem flat_len {α : Type} (f : α → List Value) (s : Nat) (hf : ∀ x, (f x).length = s) : ∀ l : List α, (l.flatMap f).length = l.length * s
  | [] => by simp
  | x :: r => by simp only [List.flatMap_cons, List.length_append, hf, flat_len f s hf r, List.length_cons]; rw [Nat.add_mul]; omega

theorem flat_get {α : Type} (f : α → List Value) (s : Nat) (hf : ∀ x, (f x).length = s) : ∀ (l : List α) (k j : Nat) (hk : k < l.length), j < s → (l.flatMap f)[k * s + j]? = (f l[k])[j]?
  | [], k, j, hk, hj => by simp at hk
  | x :: r, 0, j, hk, hj => by
    simp only [List.flatMap_cons, Nat.zero_mul, Nat.zero_add, List.getElem_cons_zero]
    rw [List.getElem?_append_left (by rw [hf]; exact hj)]
  | x :: r, k + 1, j, hk, hj => by
    simp only [List.flatMap_cons, List.getElem_cons_succ]
    rw [List.getElem?_append_right (by rw [hf, Nat.add_mul]; omega), hf]
    rw [show (k + 1) * s + j - s = k * s + j from by rw [Nat.add_mul]; omega]
    exact flat_get f s hf r k j (by simpa using hk) hj

theorem flat_set {α : Type} (f : α → List Value) (s : Nat) (hf : ∀ x, (f x).length = s) : ∀ (l : List α) (k j : Nat) (hk : k < l.length) (y : α) (v : Value), j < s → f y = (f l[k]).set j v → (l.flatMap f).set (k * s + j) v = (l.set k y).flatMap f
  | [], k, j, hk, y, v, hj, h => by simp at hk
  | x :: r, 0, j, hk, y, v, hj, h => by
    simp only [List.flatMap_cons, Nat.zero_mul, Nat.zero_add, List.set_cons_zero]
    rw [List.set_append_left _ _ (by rw [hf]; exact hj), h]; rfl
  | x :: r, k + 1, j, hk, y, v, hj, h => by
    simp only [List.flatMap_cons, List.set_cons_succ]
    rw [List.set_append_right _ _ (by rw [hf, Nat.add_mul]; omega), hf]
    rw [show (k + 1) * s + j - s = k * s + j from by rw [Nat.add_mul]; omega]
    rw [flat_set f s hf r k j (by simpa using hk) y v hj (by simpa using h)]

/-- A slice of structs that can be read. -/
def SAt {α : Type} [Inhabited α] (f : α → List Value) (s : Nat) (w : World) (a : Option Addr) (n : Nat) (l : List α) : Prop :=
  l.length = n ∧ ∀ k, k < n → ∃ b off, a = some ⟨b, off, none⟩ ∧ b < w.heap.size ∧ ∀ j, j < s → w.cell? ⟨b, off + k * s + j, none⟩ = (f (l[k]?.getD default))[j]?

section
variable {α : Type} [Inhabited α] {f : α → List Value} {s : Nat} {w w' : World} {a : Option Addr} {n : Nat} {l : List α}

theorem SAt.below (h : SAt f s w a n l) (hb : Below w.heap.size w w') : SAt f s w' a n l :=
  ⟨h.1, fun k hk => let ⟨b, off, h1, h2, h3⟩ := h.2 k hk; ⟨b, off, h1, Nat.lt_of_lt_of_le h2 hb.size, fun j hj => (hb.cell (p := ⟨b, off + k * s + j, none⟩) h2).trans (h3 j hj)⟩⟩

theorem SAt.nil (w : World) (a : Option Addr) : SAt f s w a 0 [] := ⟨rfl, fun k hk => absurd hk (by omega)⟩

/-- A slice of structs of the call's own. -/
def OwnS (f : α → List Value) (s : Nat) (e : TypeId) (w : World) (B : Nat) (v : Value) (l : List α) : Prop := w.ownsRow B e s v l.length (l.flatMap f)

variable {e : TypeId} {B : Nat} {v : Value}

theorem OwnS.form (h : OwnS f s e w B v l) : ∃ a c, v = .slice a l.length c := by
  rcases h.2 with ⟨rfl, h0⟩ | ⟨g, cap, cur, rfl, _⟩
  · exact ⟨none, 0, by rw [h0]⟩
  · exact ⟨_, _, rfl⟩

theorem OwnS.at {c : Nat} (hf : ∀ x, (f x).length = s) (h : OwnS f s e w B (.slice a n c) l) : SAt f s w a n l := by
  have h' := h
  unfold OwnS at h
  rcases h.2 with ⟨h1, h0⟩ | ⟨g, cap, cur, h1, hB, hg, hnc, hm, hs, ht⟩
  · simp only [Value.slice.injEq] at h1
    obtain ⟨rfl, rfl, rfl⟩ := h1
    have : l = [] := List.eq_nil_of_length_eq_zero h0
    subst this
    exact SAt.nil _ _
  · simp only [Value.slice.injEq] at h1
    obtain ⟨rfl, rfl, rfl⟩ := h1
    refine ⟨rfl, fun k hk => ⟨g, 0, rfl, (Array.getElem?_eq_some_iff.1 hg).1, fun j hj => ?_⟩⟩
    have hlt : k * s + j < l.length * s := by
      have : (k + 1) * s ≤ l.length * s := Nat.mul_le_mul_right s hk
      rw [Nat.add_mul] at this; omega
    have := World.ownsRow.cellAt h' (k * s + j) hlt
    rw [Nat.zero_add, this, flat_get f s hf l k j hk hj, List.getElem?_eq_getElem hk]
    rfl

theorem OwnS.len {c : Nat} (h : OwnS f s e w B (.slice a n c) l) : l.length = n := by
  obtain ⟨a', c', hv⟩ := h.form
  simp only [Value.slice.injEq] at hv
  exact hv.2.1.symm

theorem OwnS.below (h : OwnS f s e w B v l) (hb : Below w.heap.size w w') : OwnS f s e w' B v l := by
  refine ⟨h.1, ?_⟩
  rcases h.2 with h2 | ⟨g, cap, cur, hv, hg, hh, r⟩
  · exact Or.inl h2
  · exact Or.inr ⟨g, cap, cur, hv, hg, by rw [hb.block g (Array.getElem?_eq_some_iff.1 hh).1]; exact hh, r⟩

theorem OwnS.mono {B' : Nat} (h : OwnS f s e w B v l) (hb : B' ≤ B) : OwnS f s e w B' v l := by
  refine ⟨h.1, ?_⟩
  rcases h.2 with h2 | ⟨g, cap, cur, hv, hg, r⟩
  · exact Or.inl h2
  · exact Or.inr ⟨g, cap, cur, hv, Nat.le_trans hb hg, r⟩

theorem OwnS.lt (h : OwnS f s e w B v l) : ∀ k, v.ownBlock = some k → B ≤ k ∧ k < w.heap.size := World.ownsRow.lt h
theorem OwnS.kept {row : Option Nat} (h : OwnS f s e w B v l) (hg : w.grownBy w' row) (hne : v.ownBlock = none ∨ v.ownBlock ≠ row) : OwnS f s e w' B v l := World.ownsRow.kept h hg hne
theorem OwnS.alloc (h : OwnS f s e w B v l) (o : Obj) : OwnS f s e (w.alloc o) B v l := World.ownsRow.alloc h o
theorem OwnS.lit0 (w : World) : OwnS f s e (w.alloc (.cells #[] e)) w.heap.size (.slice (some ⟨w.heap.size, 0, none⟩) 0 0) ([] : List α) :=
  World.ownsRow_lit w #[] 0 (Nat.le_refl _) (Nat.zero_le _) (by simp)
theorem OwnS.nil (w : World) (B : Nat) : OwnS f s e w B (.slice none 0 0) ([] : List α) := World.ownsRow_nil _ _ _ _

theorem OwnS.row {c : Nat} (h : OwnS f s e w B (.slice a n c) l) : w.ownsRow B e s (.slice a n c) n (l.flatMap f) := by
  have e' := h.len; unfold OwnS at h; rw [e'] at h; exact h

theorem OwnS.of_row (hf : ∀ x, (f x).length = s) (hs : 0 < s) (h : w.ownsRow B e s v n (l.flatMap f)) : OwnS f s e w B v l := by
  have e' : n = l.length := by
    have := h.1
    rw [flat_len f s hf] at this
    exact (Nat.eq_of_mul_eq_mul_right hs this).symm
  subst e'; exact h

theorem OwnS.frozen {g j c : Nat} (h : OwnS f s e w B (.slice (some ⟨g, 0, none⟩) n c) l) : w.frozen? ⟨g, j, none⟩ = false := World.ownsRow.frozenAt h.row j

/-- a store into field j of element k -/
theorem OwnS.set {g k j c : Nat} (hf : ∀ x, (f x).length = s) (hs : 0 < s) (h : OwnS f s e w B (.slice (some ⟨g, 0, none⟩) n c) l) (hk : k < n) (hj : j < s) (u : Value) (y : α) (hy : f y = (f (l[k]?.getD default)).set j u) :
    OwnS f s e (w.setCell ⟨g, k * s + j, none⟩ u) B (.slice (some ⟨g, 0, none⟩) n c) (l.set k y) ∧ w.grownBy (w.setCell ⟨g, k * s + j, none⟩ u) (some g) := by
  obtain ⟨h1, h2⟩ := World.ownsRow.stored h.row (k * s + j) u
  have hl := h.len
  refine ⟨OwnS.of_row hf hs (n := n) ?_, h2⟩
  rw [← flat_set f s hf l k j (by omega) y u hj (by rw [List.getElem?_eq_getElem (by omega)] at hy; exact hy)]
  exact h1

theorem SAt.cells (hf : ∀ x, (f x).length = s) (h1 : ∀ x, ∀ u ∈ f x, u.oneCell' = true) (h : SAt f s w a n l) : CellsAt w a n s (l.flatMap f) := by
  refine ⟨by rw [flat_len f s hf, h.1], ?_, ?_, ?_⟩
  · intro ha
    by_cases hn : n = 0
    · exact hn
    · obtain ⟨b, off, h1, _⟩ := h.2 0 (by omega)
      rw [ha] at h1; cases h1
  · intro ad ha j u hu
    have hlen : (l.flatMap f).length = n * s := by rw [flat_len f s hf, h.1]
    have hj : j < n * s := by
      have := (List.getElem?_eq_some_iff.1 hu).1
      omega
    have hs : 0 < s := by
      rcases Nat.eq_zero_or_pos s with e | e
      · subst e; simp at hj
      · exact e
    have hk : j / s < n := (Nat.div_lt_iff_lt_mul hs).2 hj
    have hm : j % s < s := Nat.mod_lt _ hs
    obtain ⟨b, off, h1, h2, h3⟩ := h.2 (j / s) hk
    rw [ha] at h1; cases h1
    have e1 : j / s * s + j % s = j := by rw [Nat.mul_comm]; exact Nat.div_add_mod j s
    have h4 := h3 (j % s) hm
    rw [Nat.add_assoc, e1] at h4
    rw [addr_add, h4]
    have h5 := flat_get f s hf l (j / s) (j % s) (by rw [h.1]; exact hk) hm
    rw [e1, hu] at h5
    have h6 : l[j / s]?.getD default = l[j / s]'(by rw [h.1]; exact hk) := by rw [List.getElem?_eq_getElem (by rw [h.1]; exact hk)]; rfl
    rw [h6]
    exact h5.symm
  · intro u hu
    obtain ⟨x, _, hx⟩ := List.mem_flatMap.1 hu
    exact h1 x u hx

theorem SAt.single (w : World) (x : α) (hf : ∀ x, (f x).length = s) : SAt f s (w.alloc (.cells (f x).toArray e)) (some ⟨w.heap.size, 0, none⟩) 1 [x] := by
  refine ⟨rfl, fun k hk => ⟨w.heap.size, 0, rfl, by simp, fun j hj => ?_⟩⟩
  obtain rfl : k = 0 := by omega
  rw [World.cell?_alloc_at _ _ _ _ rfl]; simp
end

/-- The cells of one struct, stored one by one. -/
def setCellsFrom (w : World) (b : Nat) (off : Nat) : List Value → World
  | [] => w
  | v :: r => setCellsFrom (w.setCell ⟨b, off, none⟩ v) b (off + 1) r
def setFrom (L : List Value) (off : Nat) : List Value → List Value
  | [] => L
  | v :: r => setFrom (L.set off v) (off + 1) r

theorem setFrom_mid : ∀ (vs P A R : List Value), A.length = vs.length → setFrom (P ++ (A ++ R)) P.length vs = P ++ (vs ++ R)
  | [], P, A, R, h => by
    have : A = [] := List.eq_nil_of_length_eq_zero h
    subst this; rfl
  | v :: r, P, [], R, h => by simp at h
  | v :: r, P, x :: A, R, h => by
    have e : (P ++ (x :: A ++ R)).set P.length v = (P ++ [v]) ++ (A ++ R) := by
      rw [List.set_append_right _ _ (Nat.le_refl _)]; simp
    have := setFrom_mid r (P ++ [v]) A R (by simpa using h)
    rw [List.length_append] at this
    rw [setFrom, e]
    rw [show P.length + 1 = P.length + [v].length from rfl, this]; simp

theorem flat_setAll {α : Type} (f : α → List Value) (s : Nat) (hf : ∀ x, (f x).length = s) (l : List α) (k : Nat) (hk : k < l.length) (y : α) : setFrom (l.flatMap f) (k * s) (f y) = (l.set k y).flatMap f := by
  have e : l = l.take k ++ (l[k] :: l.drop (k + 1)) := by rw [← List.drop_eq_getElem_cons hk, List.take_append_drop]
  have e2 : l.set k y = l.take k ++ (y :: l.drop (k + 1)) := by rw [List.set_eq_take_append_cons_drop, if_pos hk]
  have e3 : l.flatMap f = (l.take k).flatMap f ++ (f l[k] ++ (l.drop (k + 1)).flatMap f) := by
    conv => lhs; rw [e]
    rw [List.flatMap_append, List.flatMap_cons]
  have e4 : ((l.take k).flatMap f).length = k * s := by rw [flat_len f s hf, List.length_take, Nat.min_eq_left (by omega)]
  rw [e2, List.flatMap_append, List.flatMap_cons, e3, ← e4]
  exact setFrom_mid _ _ _ _ (by rw [hf, hf])

theorem madeFlat {α : Type} (f : α → List Value) (s : Nat) (hf : ∀ x, (f x).length = s) (hs : 0 < s) (x : α) (z : Array Value) (hz : z.toList = f x) (n : Nat) : (madeCells z (n * s)).toList = (List.replicate n x).flatMap f := by
  have hzs : z.size = s := by rw [← Array.length_toList, hz, hf]
  apply List.ext_getElem?
  intro i
  by_cases hi : i < n * s
  · have hk : i / s < n := (Nat.div_lt_iff_lt_mul hs).2 hi
    have hm : i % s < s := Nat.mod_lt _ hs
    have h5 := flat_get f s hf (List.replicate n x) (i / s) (i % s) (by simpa using hk) hm
    have e1 : i / s * s + i % s = i := by rw [Nat.mul_comm]; exact Nat.div_add_mod i s
    rw [e1, List.getElem_replicate] at h5
    rw [h5, ← hz]
    simp only [madeCells, Array.toList_map, List.getElem?_map, Array.getElem?_toList]
    rw [Array.getElem?_eq_getElem (by simpa using hi), Array.getElem?_eq_getElem (by rw [hzs]; exact hm)]
    simp only [Option.map_some, Array.getElem_range, hzs]
    rw [getElem!_pos _ _ (by rw [hzs]; exact hm)]
  · rw [List.getElem?_eq_none (by simp [size_madeCells]; omega), List.getElem?_eq_none (by rw [flat_len f s hf]; simp; omega)]

section
variable {α : Type} [Inhabited α] {f : α → List Value} {s : Nat} {e : TypeId}
theorem rowFrom {B g n c : Nat} : ∀ (vs : List Value) (w : World) (L : List Value) (off : Nat), w.ownsRow B e s (.slice (some ⟨g, 0, none⟩) n c) n L → (setCellsFrom w g off vs).ownsRow B e s (.slice (some ⟨g, 0, none⟩) n c) n (setFrom L off vs) ∧ w.grownBy (setCellsFrom w g off vs) (some g)
  | [], w, L, off, h => ⟨h, World.grownBy.refl _ _⟩
  | v :: r, w, L, off, h => by
    obtain ⟨h1, h2⟩ := World.ownsRow.stored h off v
    obtain ⟨h3, h4⟩ := rowFrom r _ _ (off + 1) h1
    exact ⟨h3, grownBy_trans h2 h4⟩

/-- a store of a whole struct at element k -/
theorem OwnS.setAll {w : World} {B g k n c : Nat} {l : List α} (hf : ∀ x, (f x).length = s) (hs : 0 < s) (h : OwnS f s e w B (.slice (some ⟨g, 0, none⟩) n c) l) (hk : k < n) (y : α) :
    OwnS f s e (setCellsFrom w g (k * s) (f y)) B (.slice (some ⟨g, 0, none⟩) n c) (l.set k y) ∧ w.grownBy (setCellsFrom w g (k * s) (f y)) (some g) := by
  obtain ⟨h1, h2⟩ := rowFrom (f y) w _ (k * s) h.row
  refine ⟨OwnS.of_row hf hs (n := n) ?_, h2⟩
  rw [← flat_setAll f s hf l k (by have := h.len; omega) y]
  exact h1

theorem takeS {l : List α} (k : Nat) (hk : k < l.length) : l.take (k + 1) = l.take k ++ [l[k]?.getD default] := by
  rw [List.take_add_one, List.getElem?_eq_getElem hk]; rfl
theorem take_setS {l l' : List α} {k n : Nat} (hl : l.length = n) (hl' : l'.length = n) (hk : k < n) (e : l'.take k = l.take k) : (l'.set k (l[k]?.getD default)).take (k + 1) = l.take (k + 1) := by
  rw [takeS (l := l) k (by omega), takeS (l := l'.set k _) k (by rw [List.length_set]; omega), List.take_set, List.getElem?_set_self (by omega), ← e, List.set_eq_of_length_le (by rw [List.length_take]; omega)]
  rfl
end

theorem wp_append_s {α : Type} [Inhabited α] {f : α → List Value} {s : Nat} {ops : Array Oper} {rest : List Oper} {o : Oper} {a : Act} {Q : Exit → Act → World → Prop} (w : World) (hgd : o.guard = none) (so x : Operand) (t : TypeId)
    (ho : o.op = .call { callee := .builtin .append, args := #[so, x], argTypes := #[t, t] })
    (e : TypeId) (i : TypeInfo) (z : Value) (bytes : Nat) (ht : Try.prog.underlying t = some (.slice e)) (hi : Try.prog.info? e = some i) (hz : i.zero = some z) (hsize : i.size = s) (hby : i.bytes = bytes) (hzs : z.cells.size = s) (hs0 : 0 < s)
    (hf : ∀ x, (f x).length = s) (hone : ∀ x, ∀ u ∈ f x, u.oneCell' = true)
    (B : Nat) (v : Value) (l : List α) (hs : a.eval so = v) (hown : OwnS f s e w B v l)
    (ax : Option Addr) (m c : Nat) (l2 : List α) (hx : a.eval x = .slice ax m c) (hat : SAt f s w ax m l2)
    (N : Nat) (hN : l.length + m = N) (hb : N ≤ 1099511627776) (hbb : bytes ≤ 64) (hB : B ≤ w.heap.size)
    (h : ∀ a' c' w', OwnS f s e w' B (.slice a' N c') (l ++ l2) → w.grownBy w' v.ownBlock → (Value.ownBlock (.slice a' N c') = v.ownBlock ∨ Value.ownBlock (.slice a' N c') = some w.heap.size) → wpList Try.prog ops Q rest (a.put o.dst (.slice a' N c')) w') : wpList Try.prog ops Q (o :: rest) a w := by
  have hmul : (l.length + m) * bytes ≤ 140737488355328 := by
    have : (l.length + m) * bytes ≤ 1099511627776 * 64 := Nat.mul_le_mul (by omega) hbb
    omega
  refine wp_append_cells w hgd so x t ho B e i z s bytes ht hi hz hsize hby hzs hs0 v l.length _ hs hown ax m c _ hx (hat.cells hf hone) (by unfold maxLen; omega) hmul hB ?_
  intro v' w' h1 h2 h3
  have ho : OwnS f s e w' B v' (l ++ l2) := OwnS.of_row hf hs0 (n := l.length + m) (by rw [List.flatMap_append]; exact h1)
  obtain ⟨a', c', rfl⟩ := ho.form
  have e' : (l ++ l2).length = N := by rw [List.length_append, hat.1]; exact hN
  rw [e'] at ho h3 ⊢
  exact h a' c' w' ho h2 h3

end Go.Proofs.Ytikjighlnpdgiaa

/-
  Pipes: four whole numbers.
-/
set_option linter.unusedVariables false
set_option linter.unusedSimpArgs false
namespace Go.Proofs.Ytikjighlnpdgiaa
open Go.RowKit

/-- Id, from, to, size. -/
abbrev Pip := Int × Int × Int × Int
def qf (p : Pip) : List Value := [.int .i64 p.1, .int .i64 p.2.1, .int .i64 p.2.2.1, .int .i64 p.2.2.2]
theorem qf_len (p : Pip) : (qf p).length = 4 := rfl
theorem qf_one (p : Pip) : ∀ u ∈ qf p, u.oneCell' = true := by intro u hu; simp [qf] at hu; rcases hu with rfl | rfl | rfl | rfl <;> rfl
abbrev QAt (w : World) (a : Option Addr) (n : Nat) (l : List Pip) : Prop := SAt qf 4 w a n l
abbrev OwnQ (w : World) (B : Nat) (v : Value) (l : List Pip) : Prop := OwnS qf 4 71 w B v l
def pp (l : List Pip) (k : Nat) : Pip := l[k]?.getD (0, 0, 0, 0)
theorem QAt.get {w : World} {a : Option Addr} {n : Nat} {l : List Pip} (h : QAt w a n l) (k : Nat) (hk : k < n) :
    ∃ b off, a = some ⟨b, off, none⟩ ∧ b < w.heap.size ∧ w.cell? ⟨b, off + k * 4, none⟩ = some (.int .i64 (pp l k).1) ∧ w.cell? ⟨b, off + k * 4 + 1, none⟩ = some (.int .i64 (pp l k).2.1) ∧
      w.cell? ⟨b, off + k * 4 + 2, none⟩ = some (.int .i64 (pp l k).2.2.1) ∧ w.cell? ⟨b, off + k * 4 + 3, none⟩ = some (.int .i64 (pp l k).2.2.2) := by
  obtain ⟨b, off, h1, h2, h3⟩ := h.2 k hk
  exact ⟨b, off, h1, h2, h3 0 (by decide), h3 1 (by decide), h3 2 (by decide), h3 3 (by decide)⟩

end Go.Proofs.Ytikjighlnpdgiaa

/-
  A drawn region whose operations read and whose calls may make memory, but hand back values that do not hang on the world: one walk in the order of the text.
-/
set_option linter.unusedVariables false
namespace Go.Proofs.Ytikjighlnpdgiaa
open Go.RowKit

theorem wp_region_calm {P : Program} {C : World → Prop} {id : Nat} {Q : Exit → Act → World → Prop} {a : Act} {w : World} {l : List Oper} (hm : P.follows .mixedOrders = true) (hB : Region.lexB .any l.toArray = true) (hC : C w.drew)
    (h : wpQuiet P l.toArray C (fun a' => ∀ w', C w' → Q .normal a' w') l a) : (Code.region id l.toArray true).wp P Q a w :=
  wp_region_quiet (C := C) hm hB hC (by simpa using h)

/-- at a call of a function: its contract -/
theorem calm_call {P : Program} {C : World → Prop} {w' : World} {f : FuncId} {args : Array Value} {v u : Value} (hC : C w') (keep : ∀ wy w5 : World, C wy → Below wy.heap.size wy w5 → C w5)
    (h : Calls P f args w' fun e w5 => e = .returned u ∧ Below w'.heap.size w' w5) (e : u = v) : Calls P f args w' fun e w'' => e = .returned v ∧ C w'' :=
  h.mono fun _ _ ⟨he, hb⟩ => ⟨by rw [he, e], keep _ _ hC hb⟩
theorem calm_same {P : Program} {C : World → Prop} {w' : World} {f : FuncId} {args : Array Value} {v u : Value} (hC : C w')
    (h : Calls P f args w' fun e w5 => e = .returned u ∧ w' = w5) (e : u = v) : Calls P f args w' fun e w'' => e = .returned v ∧ C w'' :=
  h.mono fun _ _ ⟨he, hb⟩ => ⟨by rw [he, e], hb ▸ hC⟩

end Go.Proofs.Ytikjighlnpdgiaa

/-
  Networks: which are valid.
-/
set_option linter.unusedVariables false
set_option linter.unusedSimpArgs false
namespace Go.Proofs.Ytikjighlnpdgiaa
open Go.RowKit

/-- A pipe is valid, in itself; and at its place. -/
def okPipe (N : Int) (p : Pip) : Bool := inR p.1 1 99 && inR p.2.1 1 N && inR p.2.2.1 1 N && decide (p.2.1 ≠ p.2.2.1) && inR p.2.2.2 1 9
def okQ (N : Int) (l : List Pip) (k : Nat) : Bool := okPipe N (pp l k) && (decide (k = 0) || decide ((pp l (k - 1)).1 < (pp l k).1))
def goodNet (N : Int) (l : List Pip) : Bool := inR N 1 8 && decide (l.length ≤ 10) && (List.range l.length).all (okQ N l)
theorem goodNet_bad {N : Int} {l : List Pip} {k : Nat} (hk : k < l.length) (h : okQ N l k = false) : goodNet N l = false := by
  cases e : goodNet N l
  · rfl
  · simp only [goodNet, Bool.and_eq_true, List.all_eq_true, List.mem_range] at e
    rw [e.2 k hk] at h
    cases h
theorem goodNet_all {N : Int} {l : List Pip} (h1 : inR N 1 8 = true) (h2 : l.length ≤ 10) (h3 : ∀ k, k < l.length → okQ N l k = true) : goodNet N l = true := by
  simp only [goodNet, Bool.and_eq_true, List.all_eq_true, List.mem_range, decide_eq_true_eq]
  exact ⟨⟨h1, h2⟩, h3⟩
theorem goodNet_get {N : Int} {l : List Pip} (h : goodNet N l = true) : (1 ≤ N ∧ N ≤ 8) ∧ l.length ≤ 10 ∧ ∀ k, k < l.length → okQ N l k = true := by
  simp only [goodNet, Bool.and_eq_true, List.all_eq_true, List.mem_range, decide_eq_true_eq] at h
  exact ⟨inR_iff.1 h.1.1, h.1.2, h.2⟩
theorem okPipe_iff {N : Int} {p : Pip} : okPipe N p = true ↔ (1 ≤ p.1 ∧ p.1 ≤ 99) ∧ (1 ≤ p.2.1 ∧ p.2.1 ≤ N) ∧ (1 ≤ p.2.2.1 ∧ p.2.2.1 ≤ N) ∧ p.2.1 ≠ p.2.2.1 ∧ (1 ≤ p.2.2.2 ∧ p.2.2.2 ≤ 9) := by
  simp only [okPipe, Bool.and_eq_true, inR_iff, decide_eq_true_eq, and_assoc]
theorem goodNet_pipe {N : Int} {l : List Pip} (h : goodNet N l = true) {k : Nat} (hk : k < l.length) : (1 ≤ (pp l k).1 ∧ (pp l k).1 ≤ 99) ∧ (1 ≤ (pp l k).2.1 ∧ (pp l k).2.1 ≤ N) ∧ (1 ≤ (pp l k).2.2.1 ∧ (pp l k).2.2.1 ≤ N) ∧ (pp l k).2.1 ≠ (pp l k).2.2.1 ∧ (1 ≤ (pp l k).2.2.2 ∧ (pp l k).2.2.2 ≤ 9) := by
  have := (goodNet_get h).2.2 k hk
  simp only [okQ, Bool.and_eq_true] at this
  exact okPipe_iff.1 this.1
theorem all_nextN {p : Nat → Bool} {k : Nat} (h : ∀ j, j < k → p j = true) (hk : p k = true) : ∀ j, j < k + 1 → p j = true := fun j hj => by
  by_cases e : j = k
  · subst e; exact hk
  · exact h j (by omega)

theorem i_has (N x : Int) (a : Option Addr) (n c : Nat) (w : World) : Calls Try.prog 41 #[.agg #[.int .i64 N, .slice a n c], .int .i64 x] w fun e w' => e = .returned (.bool (inR x 1 N)) ∧ Below w.heap.size w w' := by
  go_enter Try.func41, Try.ntmps41
  go_wp2_with fail
  refine (i_inside _ _ _ _).mono ?_
  rintro e _ ⟨rfl, rfl⟩
  go_wp2
  go_ret
  exact ⟨rfl, by go_grown⟩

theorem s_l2Pipe (N p1 p2 p3 p4 : Int) (w : World) : Calls Try.prog 96 #[.int .i64 N, .agg #[.int .i64 p1, .int .i64 p2, .int .i64 p3, .int .i64 p4]] w fun e w' => e = .returned (.bool (okPipe N (p1, p2, p3, p4))) ∧ Below w.heap.size w w' := by
  cases c1 : inR p1 1 99
  · skip
    have E := hid (show false = okPipe N (p1, p2, p3, p4) by simp [okPipe, *])
    have H1 := hid c1
    clear c1
    go_enter Try.func96, Try.ntmps96
    go_wp2_with fail
    refine (s_l1In _ _ _ _).mono ?_
    rintro e _ ⟨rfl, rfl⟩
    rw [H1.out]
    go_wp2
    go_ret
    exact ⟨ret_bool E.out, by go_grown⟩
  · cases c2 : inR p2 1 N
    · skip
      have E := hid (show false = okPipe N (p1, p2, p3, p4) by simp [okPipe, *])
      have H1 := hid c1
      have H2 := hid c2
      clear c1 c2
      go_enter Try.func96, Try.ntmps96
      go_wp2_with fail
      refine (s_l1In _ _ _ _).mono ?_
      rintro e _ ⟨rfl, rfl⟩
      rw [H1.out]
      go_wp2_with fail
      refine (s_l1In _ _ _ _).mono ?_
      rintro e _ ⟨rfl, rfl⟩
      rw [H2.out]
      go_wp2
      go_ret
      exact ⟨ret_bool E.out, by go_grown⟩
    · cases c3 : inR p3 1 N
      · skip
        have E := hid (show false = okPipe N (p1, p2, p3, p4) by simp [okPipe, *])
        have H1 := hid c1
        have H2 := hid c2
        have H3 := hid c3
        clear c1 c2 c3
        go_enter Try.func96, Try.ntmps96
        go_wp2_with fail
        refine (s_l1In _ _ _ _).mono ?_
        rintro e _ ⟨rfl, rfl⟩
        rw [H1.out]
        go_wp2_with fail
        refine (s_l1In _ _ _ _).mono ?_
        rintro e _ ⟨rfl, rfl⟩
        rw [H2.out]
        go_wp2_with fail
        refine (s_l1In _ _ _ _).mono ?_
        rintro e _ ⟨rfl, rfl⟩
        rw [H3.out]
        go_wp2
        go_ret
        exact ⟨ret_bool E.out, by go_grown⟩
      · by_cases c4 : p2 = p3
        · subst c4
          have E := hid (show false = okPipe N (p1, p2, p2, p4) by simp [okPipe, *])
          have H1 := hid c1
          have H2 := hid c2
          have H3 := hid c3
          clear c1 c2 c3
          go_enter Try.func96, Try.ntmps96
          go_wp2_with fail
          refine (s_l1In _ _ _ _).mono ?_
          rintro e _ ⟨rfl, rfl⟩
          rw [H1.out]
          go_wp2_with fail
          refine (s_l1In _ _ _ _).mono ?_
          rintro e _ ⟨rfl, rfl⟩
          rw [H2.out]
          go_wp2_with fail
          refine (s_l1In _ _ _ _).mono ?_
          rintro e _ ⟨rfl, rfl⟩
          rw [H3.out]
          go_wp2
          go_ret
          exact ⟨ret_bool E.out, by go_grown⟩
        · cases c5 : inR p4 1 9
          · skip
            have E := hid (show false = okPipe N (p1, p2, p3, p4) by simp [okPipe, *])
            have H1 := hid c1
            have H2 := hid c2
            have H3 := hid c3
            have H5 := hid c5
            clear c1 c2 c3 c5
            go_enter Try.func96, Try.ntmps96
            go_wp2_with fail
            refine (s_l1In _ _ _ _).mono ?_
            rintro e _ ⟨rfl, rfl⟩
            rw [H1.out]
            go_wp2_with fail
            refine (s_l1In _ _ _ _).mono ?_
            rintro e _ ⟨rfl, rfl⟩
            rw [H2.out]
            go_wp2_with fail
            refine (s_l1In _ _ _ _).mono ?_
            rintro e _ ⟨rfl, rfl⟩
            rw [H3.out]
            go_wp2_with fail
            refine (s_l1In _ _ _ _).mono ?_
            rintro e _ ⟨rfl, rfl⟩
            rw [H5.out]
            go_wp2
            go_ret
            exact ⟨ret_bool E.out, by go_grown⟩
          · skip
            have E := hid (show true = okPipe N (p1, p2, p3, p4) by simp [okPipe, *])
            have H1 := hid c1
            have H2 := hid c2
            have H3 := hid c3
            have H5 := hid c5
            clear c1 c2 c3 c5
            go_enter Try.func96, Try.ntmps96
            go_wp2_with fail
            refine (s_l1In _ _ _ _).mono ?_
            rintro e _ ⟨rfl, rfl⟩
            rw [H1.out]
            go_wp2_with fail
            refine (s_l1In _ _ _ _).mono ?_
            rintro e _ ⟨rfl, rfl⟩
            rw [H2.out]
            go_wp2_with fail
            refine (s_l1In _ _ _ _).mono ?_
            rintro e _ ⟨rfl, rfl⟩
            rw [H3.out]
            go_wp2_with fail
            refine (s_l1In _ _ _ _).mono ?_
            rintro e _ ⟨rfl, rfl⟩
            rw [H5.out]
            go_wp2
            go_ret
            exact ⟨ret_bool (by rw [← E.out]; simpa using c4), by go_grown⟩

abbrev NetI (w wr : World) (N : Int) (b0 off0 n c k : Nat) (l : List Pip) (w' : World) : Prop := Below w.heap.size w w' ∧ w'.cell? ⟨w.heap.size, 0, none⟩ = some (.int .i64 N) ∧ w'.cell? ⟨w.heap.size, 1, none⟩ = some (.slice (some ⟨b0, off0, none⟩) n c) ∧ w'.cell? ⟨wr.heap.size, 0, none⟩ = some (.int .i64 (pp l k).1) ∧ w'.cell? ⟨wr.heap.size, 1, none⟩ = some (.int .i64 (pp l k).2.1) ∧ w'.cell? ⟨wr.heap.size, 2, none⟩ = some (.int .i64 (pp l k).2.2.1) ∧ w'.cell? ⟨wr.heap.size, 3, none⟩ = some (.int .i64 (pp l k).2.2.2) ∧ w'.cell? ⟨b0, off0 + (k - 1) * 4, none⟩ = some (.int .i64 (pp l (k - 1)).1)
theorem NetI.keep (w wr : World) (N : Int) (b0 off0 n c k : Nat) (l : List Pip) (wy w5 : World) (h : NetI w wr N b0 off0 n c k l wy) (hb : Below wy.heap.size wy w5) : NetI w wr N b0 off0 n c k l w5 :=
  let ⟨h0, x0, x1, x2, x3, x4, x5, x6⟩ := h
  ⟨bstep h0 hb, (hb.cell (World.block_lt_of_cell? wy _ x0)).trans x0, (hb.cell (World.block_lt_of_cell? wy _ x1)).trans x1, (hb.cell (World.block_lt_of_cell? wy _ x2)).trans x2, (hb.cell (World.block_lt_of_cell? wy _ x3)).trans x3, (hb.cell (World.block_lt_of_cell? wy _ x4)).trans x4, (hb.cell (World.block_lt_of_cell? wy _ x5)).trans x5, (hb.cell (World.block_lt_of_cell? wy _ x6)).trans x6⟩

abbrev NetS (w : World) (N : Int) (b0 off0 n c k : Nat) (l : List Pip) (w' : World) : Prop := Below w.heap.size w w' ∧ w'.cell? ⟨w.heap.size, 0, none⟩ = some (.int .i64 N) ∧ w'.cell? ⟨w.heap.size, 1, none⟩ = some (.slice (some ⟨b0, off0, none⟩) n c) ∧ w'.cell? ⟨b0, off0 + k * 4, none⟩ = some (.int .i64 (pp l k).1) ∧ w'.cell? ⟨b0, off0 + k * 4 + 1, none⟩ = some (.int .i64 (pp l k).2.1) ∧ w'.cell? ⟨b0, off0 + k * 4 + 2, none⟩ = some (.int .i64 (pp l k).2.2.1) ∧ w'.cell? ⟨b0, off0 + k * 4 + 3, none⟩ = some (.int .i64 (pp l k).2.2.2) ∧ w'.cell? ⟨b0, off0 + (k - 1) * 4, none⟩ = some (.int .i64 (pp l (k - 1)).1)
theorem NetS.keep (w : World) (N : Int) (b0 off0 n c k : Nat) (l : List Pip) (wy w5 : World) (h : NetS w N b0 off0 n c k l wy) (hb : Below wy.heap.size wy w5) : NetS w N b0 off0 n c k l w5 :=
  let ⟨h0, x0, x1, x2, x3, x4, x5, x6⟩ := h
  ⟨bstep h0 hb, (hb.cell (World.block_lt_of_cell? wy _ x0)).trans x0, (hb.cell (World.block_lt_of_cell? wy _ x1)).trans x1, (hb.cell (World.block_lt_of_cell? wy _ x2)).trans x2, (hb.cell (World.block_lt_of_cell? wy _ x3)).trans x3, (hb.cell (World.block_lt_of_cell? wy _ x4)).trans x4, (hb.cell (World.block_lt_of_cell? wy _ x5)).trans x5, (hb.cell (World.block_lt_of_cell? wy _ x6)).trans x6⟩

end Go.Proofs.Ytikjighlnpdgiaa

/-
  Networks: how far nodes are from one another, in plain lists.
-/
set_option linter.unusedVariables false
set_option linter.unusedSimpArgs false
namespace Go.Proofs.Ytikjighlnpdgiaa
open Go.RowKit

/-- The end of a pipe that is not a node, 0 if the node is none of its ends. -/
def oth (p : Pip) (v : Int) : Int := if v = p.2.1 then p.2.2.1 else if v = p.2.2.1 then p.2.1 else 0
/-- A pipe, not the one left out, leads from a node to another one. -/
def Edge (l : List Pip) (wo u v : Int) : Prop := ∃ k, k < l.length ∧ (pp l k).1 ≠ wo ∧ oth (pp l k) u = v ∧ 0 < v

theorem okQ_ends {N : Int} {l : List Pip} {k : Nat} (hg : goodNet N l = true) (hk : k < l.length) {u v : Int} (h : oth (pp l k) u = v) (hv : 0 < v) : (1 ≤ u ∧ u ≤ N) ∧ (1 ≤ v ∧ v ≤ N) ∧ u ≠ v ∧ oth (pp l k) v = u := by
  obtain ⟨-, h2, h3, h4, -⟩ := goodNet_pipe hg hk
  unfold oth at h ⊢
  split at h
  · rename_i e
    subst e h
    refine ⟨h2, h3, h4, ?_⟩
    rw [if_neg (fun e => h4 e.symm), if_pos rfl]
  · split at h
    · rename_i e1 e2
      subst e2 h
      refine ⟨h3, h2, fun e => h4 e.symm, ?_⟩
      rw [if_pos rfl]
    · omega
theorem Edge.symm {N : Int} {l : List Pip} {wo u v : Int} (hg : goodNet N l = true) (h : Edge l wo u v) : Edge l wo v u := by
  obtain ⟨k, hk, h1, h2, h3⟩ := h
  obtain ⟨a, b, c, d⟩ := okQ_ends hg hk h2 h3
  exact ⟨k, hk, h1, d, by omega⟩
theorem Edge.ends {N : Int} {l : List Pip} {wo u v : Int} (hg : goodNet N l = true) (h : Edge l wo u v) : (1 ≤ u ∧ u ≤ N) ∧ (1 ≤ v ∧ v ≤ N) ∧ u ≠ v := by
  obtain ⟨k, hk, h1, h2, h3⟩ := h
  obtain ⟨a, b, c, d⟩ := okQ_ends hg hk h2 h3
  exact ⟨a, b, c⟩

/-- A function gives how far each node is from one, -1 where there is no way. -/
structure IsDist (N : Int) (l : List Pip) (wo s : Int) (f : Int → Int) : Prop where
  low : ∀ v, 1 ≤ v → v ≤ N → -1 ≤ f v
  self : f s = 0
  only : ∀ v, 1 ≤ v → v ≤ N → f v = 0 → v = s
  back : ∀ v, 1 ≤ v → v ≤ N → 0 < f v → ∃ u, Edge l wo u v ∧ f u = f v - 1
  step : ∀ u v, Edge l wo u v → 0 ≤ f u → 0 ≤ f v ∧ f v ≤ f u + 1

theorem IsDist.le {N : Int} {l : List Pip} {wo s : Int} {f g : Int → Int} (hgn : goodNet N l = true) (hf : IsDist N l wo s f) (hg : IsDist N l wo s g) :
    ∀ (d : Nat) (v : Int), 1 ≤ v → v ≤ N → f v = d → 0 ≤ g v ∧ g v ≤ d
  | 0, v, h1, h2, h => by
    have := hf.only v h1 h2 (by simpa using h)
    subst this
    have := hg.self
    omega
  | d + 1, v, h1, h2, h => by
    obtain ⟨u, he, hu⟩ := hf.back v h1 h2 (by omega)
    obtain ⟨⟨u1, u2⟩, -, -⟩ := he.ends hgn
    have ih := IsDist.le hgn hf hg d u u1 u2 (by omega)
    have := hg.step u v he ih.1
    omega
theorem IsDist.unique {N : Int} {l : List Pip} {wo s : Int} {f g : Int → Int} (hgn : goodNet N l = true) (hf : IsDist N l wo s f) (hg : IsDist N l wo s g) (v : Int) (h1 : 1 ≤ v) (h2 : v ≤ N) : f v = g v := by
  have a := hf.low v h1 h2
  have b := hg.low v h1 h2
  by_cases hfv : 0 ≤ f v
  · have c := IsDist.le hgn hf hg (f v).toNat v h1 h2 (by omega)
    have d := IsDist.le hgn hg hf (g v).toNat v h1 h2 (by omega)
    omega
  · by_cases hgv : 0 ≤ g v
    · have d := IsDist.le hgn hg hf (g v).toNat v h1 h2 (by omega)
      omega
    · omega

/-- What is closed and holds the node holds all that can be reached. -/
theorem IsDist.reach {N : Int} {l : List Pip} {wo s : Int} {f : Int → Int} (hgn : goodNet N l = true) (hf : IsDist N l wo s f) {R : Int → Prop} (hs : R s) (hc : ∀ u v, Edge l wo u v → R u → R v) :
    ∀ (d : Nat) (v : Int), 1 ≤ v → v ≤ N → f v = d → R v
  | 0, v, h1, h2, h => by
    have := hf.only v h1 h2 (by simpa using h)
    subst this
    exact hs
  | d + 1, v, h1, h2, h => by
    obtain ⟨u, he, hu⟩ := hf.back v h1 h2 (by omega)
    obtain ⟨⟨u1, u2⟩, -, -⟩ := he.ends hgn
    exact hc u v he (IsDist.reach hgn hf hs hc d u u1 u2 (by omega))

/-- A way of some length. -/
def Way (l : List Pip) (wo s : Int) : Nat → Int → Prop
  | 0, v => v = s
  | k + 1, v => ∃ u, Way l wo s k u ∧ Edge l wo u v
theorem least {p : Nat → Prop} (h : ∃ n, p n) : ∃ n, p n ∧ ∀ m, m < n → ¬ p m := by
  obtain ⟨n, hn⟩ := h
  induction n using Nat.strongRecOn with
  | _ n ih =>
    by_cases hq : ∃ m, m < n ∧ p m
    · obtain ⟨m, hm, hp⟩ := hq
      exact ih m hm hp
    · exact ⟨n, hn, fun m hm hp => hq ⟨m, hm, hp⟩⟩
/-- How far a node is. -/
noncomputable def far (l : List Pip) (wo s v : Int) : Int := by
  classical
  exact if h : ∃ n, Way l wo s n v then ((Classical.choose (least h) : Nat) : Int) else -1
theorem far_way {l : List Pip} {wo s v : Int} {n : Nat} (h : Way l wo s n v) : ∃ m : Nat, m ≤ n ∧ far l wo s v = m ∧ Way l wo s m v ∧ ∀ k, k < m → ¬ Way l wo s k v := by
  have hx : ∃ n, Way l wo s n v := ⟨n, h⟩
  obtain ⟨a, b⟩ := Classical.choose_spec (least hx)
  refine ⟨Classical.choose (least hx), ?_, ?_, a, b⟩
  · apply Classical.byContradiction
    intro hn
    exact b n (by omega) h
  · unfold far
    rw [dif_pos hx]
theorem far_none {l : List Pip} {wo s v : Int} (h : ¬ ∃ n, Way l wo s n v) : far l wo s v = -1 := by
  unfold far
  rw [dif_neg h]
theorem far_some {l : List Pip} {wo s v : Int} (h : 0 ≤ far l wo s v) : ∃ m : Nat, far l wo s v = m ∧ Way l wo s m v ∧ ∀ k, k < m → ¬ Way l wo s k v := by
  by_cases hx : ∃ n, Way l wo s n v
  · obtain ⟨n, hn⟩ := hx
    obtain ⟨m, -, a, b, c⟩ := far_way hn
    exact ⟨m, a, b, c⟩
  · rw [far_none hx] at h
    omega
theorem far_is {N : Int} {l : List Pip} {wo s : Int} (hgn : goodNet N l = true) : IsDist N l wo s (far l wo s) where
  low v _ _ := by
    by_cases hx : ∃ n, Way l wo s n v
    · obtain ⟨n, hn⟩ := hx
      obtain ⟨m, -, a, -⟩ := far_way hn
      omega
    · rw [far_none hx]; omega
  self := by
    obtain ⟨m, hm, a, -⟩ := far_way (l := l) (wo := wo) (s := s) (v := s) (n := 0) rfl
    omega
  only v _ _ h := by
    obtain ⟨m, a, b, -⟩ := far_some (l := l) (wo := wo) (s := s) (v := v) (by omega)
    obtain rfl : m = 0 := by omega
    exact b
  back v _ _ h := by
    obtain ⟨m, a, b, c⟩ := far_some (l := l) (wo := wo) (s := s) (v := v) (by omega)
    match m, b with
    | 0, _ => omega
    | m + 1, ⟨u, hu, he⟩ =>
      refine ⟨u, he, ?_⟩
      obtain ⟨k, hk, ak, bk, ck⟩ := far_way hu
      have : k = m := by
        apply Classical.byContradiction
        intro hn
        exact c (k + 1) (by omega) ⟨u, bk, he⟩
      omega
  step u v he h := by
    obtain ⟨m, a, b, c⟩ := far_some h
    obtain ⟨k, hk, ak, -⟩ := far_way (n := m + 1) (l := l) (wo := wo) (s := s) (v := v) ⟨u, b, he⟩
    omega

end Go.Proofs.Ytikjighlnpdgiaa

