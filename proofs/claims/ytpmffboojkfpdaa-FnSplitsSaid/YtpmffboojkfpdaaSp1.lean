/-
  Texts of this claim, joined: Base, Mem, Cur, CurG, CurH, SplitG.
-/
import Derived.Test.YtpmffboojkfpdaaProg
import Derived.WalkKit
import Derived.WalkSpells
import Derived.WalkLawsBesides
import Derived.Handy
import Derived.Deep.QuietTactic
import Derived.BigQuiet
import Derived.Deep.RegionHeld3
import Derived.Deep.RegionWith
import Derived.Deep.DeepFit
import Derived.Deep.LoopGhost
import Derived.Deep.DeepCutAuto
import Derived.Deep.DeepMust
/-
  Small laws on memory and lists that the walks of this seat share.
-/
set_option linter.unusedVariables false
namespace Go.Proofs.Ytpmffboojkfpdaa
open Go.RowKit

theorem hid {p : Prop} (h : p) : Hid p := h

theorem bcell {W w1 : World} (hb : Below W.heap.size W w1) : (∀ b o, b < W.heap.size → w1.cell? ⟨b, o, none⟩ = W.cell? ⟨b, o, none⟩) ∧ (∀ b o, b < W.heap.size → w1.frozen? ⟨b, o, none⟩ = W.frozen? ⟨b, o, none⟩) :=
  ⟨fun b o h => hb.cell (p := ⟨b, o, none⟩) h, fun b o h => hb.frozen (p := ⟨b, o, none⟩) h⟩

theorem bstep {w a b : World} (h : Below w.heap.size w a) (k : Below a.heap.size a b) : Below w.heap.size w b := h.trans (k.mono h.size)
theorem bdraws {B : Nat} {w : World} (n : Nat) : Below B w (w.drewN n) := below_drewN (Below.refl _ _) n

theorem ret_bool {a b : Bool} (h : a = b) : Ending.returned (.bool a) = .returned (.bool b) := by rw [h]
theorem ret_int {k : IntKind} {a b : Int} (h : a = b) : Ending.returned (.int k a) = .returned (.int k b) := by rw [h]
theorem ret_int_bool {k : IntKind} {a b : Int} {x y : Bool} (h : a = b) (h' : x = y) : Ending.returned (.tuple #[.int k a, .bool x]) = .returned (.tuple #[.int k b, .bool y]) := by rw [h, h']

/-- A slice of numbers that can be read: its cells hold the list. -/
def IntsAt (w : World) (a : Option Addr) (n : Nat) (l : List Int) : Prop :=
  l.length = n ∧ ∀ k, k < n → ∃ b off, a = some ⟨b, off, none⟩ ∧ b < w.heap.size ∧ w.cell? ⟨b, off + k, none⟩ = some (.int .i64 (l[k]?.getD 0))

theorem IntsAt.below {w w' : World} {a : Option Addr} {n : Nat} {l : List Int} (h : IntsAt w a n l) (hb : Below w.heap.size w w') : IntsAt w' a n l :=
  ⟨h.1, fun k hk => let ⟨b, off, h1, h2, h3⟩ := h.2 k hk; ⟨b, off, h1, Nat.lt_of_lt_of_le h2 hb.size, (hb.cell (p := ⟨b, off + k, none⟩) h2).trans h3⟩⟩

theorem IntsAt.nil (w : World) (a : Option Addr) : IntsAt w a 0 [] := ⟨rfl, fun k hk => absurd hk (by omega)⟩

theorem IntsAt.congr {w : World} {a : Option Addr} {n m : Nat} {l l' : List Int} (h : IntsAt w a n l) (e : n = m) (e' : l = l') : IntsAt w a m l' := by subst e; subst e'; exact h

theorem getD_mem (l : List Int) (k : Nat) (h : k < l.length) : l[k]?.getD 0 ∈ l := by
  rw [List.getElem?_eq_getElem h]; exact List.getElem_mem h

theorem take_succ' (zs : List Int) (k : Nat) (hk : k < zs.length) : zs.take (k + 1) = zs.take k ++ [zs[k]?.getD 0] := by
  rw [List.take_add_one, List.getElem?_eq_getElem hk]; rfl

theorem sum_take_succ (l : List Int) (k : Nat) (hk : k < l.length) : (l.take (k + 1)).sum = (l.take k).sum + l[k]?.getD 0 := by
  rw [take_succ' l k hk]; simp

def Big : Int := 1000000000000

theorem sum_take_bound (l : List Int) (hv : ∀ x ∈ l, -1000000000000 ≤ x ∧ x ≤ 1000000000000) : ∀ k, k ≤ l.length → -(1000000000000 * (k : Int)) ≤ (l.take k).sum ∧ (l.take k).sum ≤ 1000000000000 * (k : Int)
  | 0, _ => by simp
  | k + 1, hk => by
    have ih := sum_take_bound l hv k (by omega)
    rw [sum_take_succ l k (by omega)]
    have := hv _ (getD_mem l k (by omega))
    omega

theorem drew_drewN {B : Nat} {w : World} (t q : Nat) : Below B w ((w.drewN t).drewN q) := below_drewN (below_drewN (Below.refl _ _) t) q

/-- A slice of numbers of the call's own: its row holds the list. -/
def OwnI (w : World) (B : Nat) (v : Value) (l : List Int) : Prop := w.ownsRow B 3 1 v l.length (l.map (Value.int .i64))

theorem OwnI.form {w : World} {B : Nat} {v : Value} {l : List Int} (h : OwnI w B v l) : ∃ a c, v = .slice a l.length c := by
  rcases h.2 with ⟨rfl, h0⟩ | ⟨g, cap, cur, rfl, _⟩
  · exact ⟨none, 0, by rw [h0]⟩
  · exact ⟨_, _, rfl⟩

theorem OwnI.at {w : World} {B : Nat} {a : Option Addr} {n c : Nat} {l : List Int} (h : OwnI w B (.slice a n c) l) : IntsAt w a n l := by
  have h' := h
  unfold OwnI at h
  rcases h.2 with ⟨h1, h0⟩ | ⟨g, cap, cur, h1, hB, hg, hnc, hm, hs, ht⟩
  · simp only [Value.slice.injEq] at h1
    obtain ⟨rfl, rfl, rfl⟩ := h1
    have : l = [] := List.eq_nil_of_length_eq_zero h0
    subst this
    exact IntsAt.nil _ _
  · simp only [Value.slice.injEq] at h1
    obtain ⟨rfl, rfl, rfl⟩ := h1
    refine ⟨rfl, fun k hk => ⟨g, 0, rfl, (Array.getElem?_eq_some_iff.1 hg).1, ?_⟩⟩
    have := World.ownsRow.cellAt h' k (by simpa using hk)
    rw [Nat.zero_add, this, List.getElem?_map, List.getElem?_eq_getElem hk]
    rfl

theorem OwnI.below {w w' : World} {B : Nat} {v : Value} {l : List Int} (h : OwnI w B v l) (hb : Below w.heap.size w w') : OwnI w' B v l := by
  refine ⟨h.1, ?_⟩
  rcases h.2 with h2 | ⟨g, cap, cur, hv, hg, hh, r⟩
  · exact Or.inl h2
  · exact Or.inr ⟨g, cap, cur, hv, hg, by rw [hb.block g (Array.getElem?_eq_some_iff.1 hh).1]; exact hh, r⟩

theorem OwnI.mono {w : World} {B B' : Nat} {v : Value} {l : List Int} (h : OwnI w B v l) (hb : B' ≤ B) : OwnI w B' v l := by
  refine ⟨h.1, ?_⟩
  rcases h.2 with h2 | ⟨g, cap, cur, hv, hg, r⟩
  · exact Or.inl h2
  · exact Or.inr ⟨g, cap, cur, hv, Nat.le_trans hb hg, r⟩

/-- The block of a slice of the call's own lies from the base on, and is there. -/
theorem OwnI.lt {w : World} {B : Nat} {v : Value} {l : List Int} (h : OwnI w B v l) : ∀ k, v.ownBlock = some k → B ≤ k ∧ k < w.heap.size := World.ownsRow.lt h

theorem OwnI.kept {w w' : World} {B : Nat} {v : Value} {l : List Int} {row : Option Nat} (h : OwnI w B v l) (hg : w.grownBy w' row) (hne : v.ownBlock = none ∨ v.ownBlock ≠ row) : OwnI w' B v l := World.ownsRow.kept h hg hne

theorem OwnI.congr {w : World} {B : Nat} {v : Value} {l l' : List Int} (h : OwnI w B v l) (e : l = l') : OwnI w B v l' := by subst e; exact h

theorem IntsAt.kept {w w' : World} {a : Option Addr} {n : Nat} {l : List Int} {row : Option Nat} (h : IntsAt w a n l) (hg : w.grownBy w' row) (hne : ∀ b off, a = some ⟨b, off, none⟩ → some b ≠ row) : IntsAt w' a n l :=
  ⟨h.1, fun k hk => let ⟨b, off, h1, h2, h3⟩ := h.2 k hk; ⟨b, off, h1, Nat.lt_of_lt_of_le h2 hg.size, hg.cell h3 (hne b off h1)⟩⟩

theorem OwnI.len {w : World} {B : Nat} {a : Option Addr} {n c : Nat} {l : List Int} (h : OwnI w B (.slice a n c) l) : l.length = n := h.at.1

theorem OwnI.row {w : World} {B : Nat} {a : Option Addr} {n c : Nat} {l : List Int} (h : OwnI w B (.slice a n c) l) : w.ownsRow B 3 1 (.slice a n c) n (l.map (Value.int .i64)) := by
  have e := h.len; unfold OwnI at h; rw [e] at h; exact h

theorem OwnI.of_row {w : World} {B : Nat} {v : Value} {n : Nat} {l : List Int} (h : w.ownsRow B 3 1 v n (l.map (Value.int .i64))) : OwnI w B v l := by
  have e : n = l.length := by have := h.1; simpa using this.symm
  subst e; exact h

theorem OwnI.cell {w : World} {B g k n c : Nat} {l : List Int} (h : OwnI w B (.slice (some ⟨g, 0, none⟩) n c) l) (hk : k < n) : w.cell? ⟨g, k, none⟩ = some (.int .i64 (l[k]?.getD 0)) := by
  rw [World.ownsRow.cellAt h.row k (by simpa using hk), List.getElem?_map, List.getElem?_eq_getElem (by rw [h.len]; exact hk)]; rfl

theorem OwnI.frozen {w : World} {B g k n c : Nat} {l : List Int} (h : OwnI w B (.slice (some ⟨g, 0, none⟩) n c) l) : w.frozen? ⟨g, k, none⟩ = false := World.ownsRow.frozenAt h.row k

theorem OwnI.set {w : World} {B g k n c : Nat} {l : List Int} (h : OwnI w B (.slice (some ⟨g, 0, none⟩) n c) l) (x : Int) :
    OwnI (w.setCell ⟨g, k, none⟩ (.int .i64 x)) B (.slice (some ⟨g, 0, none⟩) n c) (l.set k x) ∧ w.grownBy (w.setCell ⟨g, k, none⟩ (.int .i64 x)) (some g) := by
  obtain ⟨h1, h2⟩ := World.ownsRow.stored h.row k (.int .i64 x)
  refine ⟨OwnI.of_row (n := n) ?_, h2⟩
  rw [List.map_set]; exact h1

theorem grownBy_trans {w a b : World} {row : Option Nat} (h : w.grownBy a row) (k : a.grownBy b row) : w.grownBy b row :=
  ⟨k.os.trans h.os, k.tape.trans h.tape, k.output.trans h.output, Nat.le_trans h.size k.size, fun i hi hr => (k.block i (Nat.lt_of_lt_of_le hi h.size) hr).trans (h.block i hi hr)⟩

theorem below_of_grown {B : Nat} {w w' : World} {row : Option Nat} (hg : w.grownBy w' row) (hB : B ≤ w.heap.size) (hr : ∀ k, row = some k → B ≤ k) : Below B w w' :=
  (Below.refl B w).grown hg hB hr

theorem grown_of_below {w w' : World} (hb : Below w.heap.size w w') (row : Option Nat) : w.grownBy w' row :=
  ⟨hb.os, hb.tape, hb.output, hb.size, fun k hk _ => hb.block k hk⟩

theorem Try.infoInt : (Try.prog.info? 3).map (fun i => (i.zero, i.size, i.bytes)) = some (some (.int .i64 0), 1, 8) := by kernel_rfl

theorem OwnI.alloc {w : World} {B : Nat} {v : Value} {l : List Int} (h : OwnI w B v l) (o : Obj) : OwnI (w.alloc o) B v l := World.ownsRow.alloc h o

theorem OwnI.lit0 (w : World) : OwnI (w.alloc (.cells #[] 3)) w.heap.size (.slice (some ⟨w.heap.size, 0, none⟩) 0 0) [] :=
  World.ownsRow_lit w #[] 0 (Nat.le_refl _) (Nat.zero_le _) rfl

theorem OwnI.nil (w : World) (B : Nat) : OwnI w B (.slice none 0 0) [] := World.ownsRow_nil _ _ _ _

theorem IntsAt.single (w : World) (x : Int) : IntsAt (w.alloc (.cells #[.int .i64 x] 3)) (some ⟨w.heap.size, 0, none⟩) 1 [x] := by
  refine ⟨rfl, fun k hk => ⟨w.heap.size, 0, rfl, by simp, ?_⟩⟩
  obtain rfl : k = 0 := by omega
  rw [World.cell?_alloc_at _ _ _ _ rfl]; rfl

theorem run_append_none {P : Program} (w : World) (base : Nat) (t ty e : TypeId) (i : TypeInfo) (size c : Nat) (ht : P.underlying t = some (.slice e)) (hi : P.info? e = some i)
    (v : Value) (n : Nat) (xs : List Value) (hown : w.ownsRow base e size v n xs) :
    (Builtin.append_ #[t, t] ty #[v, .slice none 0 c]).run P w = .ok v w := by
  rcases hown.2 with ⟨rfl, rfl⟩ | ⟨g, cap, cur, rfl, _, _, hnc, _⟩
  · simp [Builtin.append_, run_underlying ht, sizeOf, typeInfo, hi, Builtin.lenOf, Builtin.firstCells]
  · simp [Builtin.append_, run_underlying ht, sizeOf, typeInfo, hi, Builtin.lenOf, Builtin.firstCells, hnc, storeCells]

/-- What an append may read: a slice whose cells are known. -/
def CellsAt (w : World) (ax : Option Addr) (m : Nat) (size : Nat) (news : List Value) : Prop :=
  news.length = m * size ∧ (ax = none → m = 0) ∧ (∀ ad, ax = some ad → ∀ j u, news[j]? = some u → w.cell? (ad.add j) = some u) ∧ ∀ u ∈ news, u.oneCell' = true

theorem addr_add (b off j : Nat) : (⟨b, off, none⟩ : Addr).add j = ⟨b, off + j, none⟩ := by
  unfold Addr.add; split
  · rename_i h; subst h; rfl
  · rfl

theorem IntsAt.cells {w : World} {a : Option Addr} {n : Nat} {l : List Int} (h : IntsAt w a n l) : CellsAt w a n 1 (l.map (Value.int .i64)) := by
  refine ⟨by simp [h.1], ?_, ?_, ?_⟩
  · intro ha
    by_cases hn : n = 0
    · exact hn
    · obtain ⟨b, off, h1, _⟩ := h.2 0 (by omega)
      rw [ha] at h1; cases h1
  · intro ad ha j u hu
    by_cases hj : j < n
    · obtain ⟨b, off, h1, h2, h3⟩ := h.2 j hj
      rw [ha] at h1; cases h1
      rw [addr_add, h3]
      rw [List.getElem?_map] at hu
      cases hq : l[j]? with
      | none => rw [hq] at hu; cases hu
      | some x => rw [hq] at hu; simpa using hu
    · rw [List.getElem?_eq_none (by simp [h.1]; omega)] at hu; cases hu
  · intro u hu
    obtain ⟨x, _, rfl⟩ := List.mem_map.1 hu
    rfl

/-- Behind an append the row lies where it lay, or in a new block. -/
theorem append_block {P : Program} (w : World) (base : Nat) (t ty e : TypeId) (i : TypeInfo) (z : Value) (size bytes : Nat) (ht : P.underlying t = some (.slice e)) (hi : P.info? e = some i) (hz : i.zero = some z)
    (hsize : i.size = size) (hby : i.bytes = bytes)
    (v : Value) (n : Nat) (xs : List Value) (hown : w.ownsRow base e size v n xs)
    (ad : Addr) (m c : Nat) (news : List Value) (hl : news.length = m * size) (hnews : ∀ j u, news[j]? = some u → w.cell? (ad.add j) = some u) (h1 : ∀ u ∈ news, u.oneCell' = true)
    (h63 : n + m ≤ maxLen) (hbytes : (n + m) * bytes ≤ 140737488355328) {v' : Value} {w' : World}
    (h : (Builtin.append_ #[t, t] ty #[v, .slice (some ad) m c]).run P w = .ok v' w') : v'.ownBlock = v.ownBlock ∨ v'.ownBlock = some w.heap.size := by
  subst hsize
  subst hby
  have hsmall : n + m ≤ 9223372036854775807 := by simp only [maxLen] at h63; omega
  rcases hown.2 with ⟨rfl, rfl⟩ | ⟨g, cap, cur, rfl, hbg, hg, hnc, hcm, hcs, htake⟩
  · by_cases hm : m = 0
    · subst hm
      have hn : news = [] := List.eq_nil_of_length_eq_zero (by simpa using hl)
      subst hn
      have hr : (Builtin.append_ #[t, t] ty #[.slice none 0 0, .slice (some ad) 0 c]).run P w = .ok (.slice none 0 0) w := by
        simp [Builtin.append_, run_underlying ht, sizeOf, typeInfo, hi, Builtin.lenOf, Builtin.firstCells, loadCells, loadCellsFrom]
      rw [hr] at h
      injection h with h2 _
      subst h2
      exact Or.inl rfl
    · have hr := run_append_nil (P := P) w t ty e i z ht hi hz ad m c news hl hnews (by omega) (by omega) (by have hb := hbytes; simp only [Nat.zero_add] at hb; omega)
      rw [hr] at h
      injection h with h2 _
      subst h2
      exact Or.inr rfl
  · by_cases hroom : n + m ≤ cap
    · have hfit : n * i.size + news.length ≤ cur.size := by rw [hl, hcs, ← Nat.add_mul]; exact Nat.mul_le_mul_right _ hroom
      have hr := run_append_room (P := P) w t ty e i ht hi g n cap cur hg ad m c news hl hnews h1 hroom hfit
      rw [hr] at h
      injection h with h2 _
      subst h2
      exact Or.inl rfl
    · have holds : ∀ j u, xs[j]? = some u → w.cell? ((⟨g, 0, none⟩ : Addr).add j) = some u := hown.cells (g := g) rfl
      have hr := run_append_grow (P := P) w t ty e i z ht hi hz ⟨g, 0, none⟩ n cap xs hown.1 holds ad m c news hl hnews (by omega) (by omega) (growslice_fits (by omega) hbytes)
      rw [hr] at h
      injection h with h2 _
      subst h2
      exact Or.inr rfl

theorem wp_append_cells {P : Program} {ops : Array Oper} {rest : List Oper} {o : Oper} {a : Act} {Q : Exit → Act → World → Prop} (w : World) (hgd : o.guard = none) (s x : Operand) (t : TypeId)
    (ho : o.op = .call { callee := .builtin .append, args := #[s, x], argTypes := #[t, t] })
    (base : Nat) (e : TypeId) (i : TypeInfo) (z : Value) (size bytes : Nat) (ht : P.underlying t = some (.slice e)) (hi : P.info? e = some i) (hz : i.zero = some z)
    (hsize : i.size = size) (hby : i.bytes = bytes) (hzs : z.cells.size = size) (hsz : 0 < size)
    (v : Value) (n : Nat) (xs : List Value) (hs : a.eval s = v) (hown : w.ownsRow base e size v n xs)
    (ax : Option Addr) (m c : Nat) (news : List Value) (hx : a.eval x = .slice ax m c) (hat : CellsAt w ax m size news)
    (h63 : n + m ≤ maxLen) (hbytes : (n + m) * bytes ≤ 140737488355328) (hbase : base ≤ w.heap.size)
    (h : ∀ v' w', w'.ownsRow base e size v' (n + m) (xs ++ news) → w.grownBy w' v.ownBlock → (v'.ownBlock = v.ownBlock ∨ v'.ownBlock = some w.heap.size) → wpList P ops Q rest (a.put o.dst v') w') : wpList P ops Q (o :: rest) a w := by
  obtain ⟨h1, h2, h3, h4⟩ := hat
  cases ax with
  | some ad =>
    obtain ⟨v', w', hrun, k1, k2, _⟩ := run_append_own (P := P) w base t o.type e i z size bytes ht hi hz hsize hby hzs hsz v n xs hown ad m c news h1 (h3 ad rfl) h4 h63 hbytes hbase
    have k3 := append_block w base t o.type e i z size bytes ht hi hz hsize hby v n xs hown ad m c news h1 (h3 ad rfl) h4 h63 hbytes hrun
    refine wpList_plain hgd fun K hK => ?_
    unfold Oper.wp
    simp [execOp, ho, resolve, invoke, builtin, hs, hx, hrun, Result.andThen]
    exact hK _ _ (h v' w' k1 k2 k3)
  | none =>
    obtain rfl := h2 rfl
    have hnews : news = [] := List.eq_nil_of_length_eq_zero (by simpa using h1)
    subst hnews
    refine wpList_plain hgd fun K hK => ?_
    have hrun := run_append_none (P := P) w base t o.type e i size c ht hi v n xs hown
    unfold Oper.wp
    simp [execOp, ho, resolve, invoke, builtin, hs, hx, hrun, Result.andThen]
    refine hK _ _ (h v w ?_ (World.grownBy.refl _ _) (Or.inl rfl))
    simpa using hown

theorem wp_append_ints {ops : Array Oper} {rest : List Oper} {o : Oper} {a : Act} {Q : Exit → Act → World → Prop} (w : World) (hgd : o.guard = none) (s x : Operand)
    (ho : o.op = .call { callee := .builtin .append, args := #[s, x], argTypes := #[22, 22] })
    (B : Nat) (v : Value) (l : List Int) (hs : a.eval s = v) (hown : OwnI w B v l)
    (ax : Option Addr) (m c : Nat) (l2 : List Int) (hx : a.eval x = .slice ax m c) (hat : IntsAt w ax m l2)
    (N : Nat) (hN : l.length + m = N) (hb : N ≤ 1099511627776) (hB : B ≤ w.heap.size)
    (h : ∀ a' c' w', OwnI w' B (.slice a' N c') (l ++ l2) → w.grownBy w' v.ownBlock → (Value.ownBlock (.slice a' N c') = v.ownBlock ∨ Value.ownBlock (.slice a' N c') = some w.heap.size) → wpList Try.prog ops Q rest (a.put o.dst (.slice a' N c')) w') : wpList Try.prog ops Q (o :: rest) a w := by
  obtain ⟨i0, hi, hz0, hz1, hz2⟩ := info_parts Try.infoInt
  refine wp_append_cells w hgd s x 22 ho B 3 i0 (.int .i64 0) 1 8 Try.underlying22 hi hz0 hz1 hz2 rfl (by decide) v l.length _ hs hown ax m c _ hx hat.cells (by unfold maxLen; omega) (by omega) hB ?_
  intro v' w' h1 h2 h3
  have ho : OwnI w' B v' (l ++ l2) := OwnI.of_row (n := l.length + m) (by rw [List.map_append]; exact h1)
  obtain ⟨a', c', rfl⟩ := ho.form
  have e : (l ++ l2).length = N := by rw [List.length_append, hat.1]; exact hN
  rw [e] at ho h3 ⊢
  exact h a' c' w' ho h2 h3

theorem OwnI.made {w : World} {B n : Nat} {v : Value} (h : w.ownsRow B 3 1 v n (madeCells #[Value.int IntKind.i64 0] n).toList) : OwnI w B v (List.replicate n 0) := by
  refine OwnI.of_row (n := n) ?_
  rw [toList_madeCells_one] at h
  rw [List.map_replicate]; exact h

/-- The numbers that a mark leaves. -/
def marks (k : Int) (n : Nat) : List Int := (List.range n).map (fun i : Nat => k + (i : Int))
theorem marks_length (k : Int) (n : Nat) : (marks k n).length = n := by simp [marks]
theorem marks_ext {k : Int} {n : Nat} {l : List Int} (hl : l.length = n) (h : ∀ j, j < n → l[j]?.getD 0 = k + j) : l = marks k n := by
  apply List.ext_getElem (by rw [hl, marks_length])
  intro i h1 h2
  have := h i (by omega)
  rw [List.getElem?_eq_getElem h1] at this
  simpa [marks] using this
theorem marks_get (k : Int) (n i : Nat) (h : i < n) : (marks k n)[i]?.getD 0 = k + i := by simp [marks, h]

theorem quiet_eq {P : Program} {f : FuncId} {args : Array Value} {w : World} {n : Nat} {v : Value}
    (h : Calls P f args (w.drewN n) fun e w' => e = .returned v ∧ w.drewN n = w') : Calls P f args (w.drewN n) fun e w'' => e = .returned v ∧ ∃ m, w'' = w.drewN m :=
  h.mono fun _ _ ⟨he, hm⟩ => ⟨he, n, hm.symm⟩

end Go.Proofs.Ytpmffboojkfpdaa

/-
  A slice of a call's own stays as it is where another block is written.
-/
set_option linter.unusedVariables false
namespace Go.Proofs.Ytpmffboojkfpdaa
open Go.RowKit

theorem grown_setCell (w : World) (b o : Nat) (u : Value) : w.grownBy (w.setCell ⟨b, o, none⟩ u) (some b) :=
  ⟨rfl, rfl, rfl, by simp, fun k _ hk => Below.heap_setCell _ _ _ _ (fun e => hk (by rw [e]))⟩
theorem OwnI.far {w : World} {B b o : Nat} {v u : Value} {l : List Int} (h : OwnI w B v l) (hb : b < B) : OwnI (w.setCell ⟨b, o, none⟩ u) B v l :=
  h.kept (grown_setCell w b o u) (by
    cases hv : v.ownBlock with
    | none => exact .inl rfl
    | some k =>
      refine .inr fun e => ?_
      have := (h.lt k hv).1
      cases e
      omega)
theorem sum_fit {l : List Int} {B : Int} (hB : 0 ≤ B) (h : ∀ x ∈ l, 0 ≤ x ∧ x ≤ B) : 0 ≤ l.sum ∧ l.sum ≤ B * (l.length : Int) := by
  induction l with
  | nil => simp
  | cons x r ih =>
    have h1 := h x (by simp)
    have h2 := ih fun y hy => h y (by simp [hy])
    simp only [List.sum_cons, List.length_cons]
    have e : B * ((r.length + 1 : Nat) : Int) = B * (r.length : Int) + B := by rw [Int.natCast_add, Int.mul_add]; simp
    omega
theorem getD_mem' {l : List Int} {k : Nat} (hk : k < l.length) : l[k]?.getD 0 ∈ l := by
  rw [List.getElem?_eq_getElem hk]
  exact List.getElem_mem hk

theorem mid_new (W : World) (x y : Obj) (g : Nat) (hg : g = W.heap.size) : ((W.alloc x).alloc y).heap[g]? = some x := by
  subst hg
  rw [Below.heap_alloc _ _ _ (by simp)]
  exact heap_alloc_new _ _
theorem other_cell {W : World} {b o g : Nat} {u : Value} {x : Obj} (h : W.heap[g]? = some x) (hne : g ≠ b) : (W.setCell ⟨b, o, none⟩ u).heap[g]? = some x := (Below.heap_setCell _ _ _ _ hne).trans h

end Go.Proofs.Ytpmffboojkfpdaa

/-
  The cursor that the draws read from.
-/
set_option linter.unusedVariables false
set_option linter.unusedSimpArgs false
namespace Go.Proofs.Ytpmffboojkfpdaa
open Go.RowKit

/-- A cursor at the block g, at most K bytes read. -/
def Cur (w : World) (g K : Nat) : Prop :=
  ∃ (a : Option Addr) (n c k : Nat) (s : Int), k ≤ K ∧ n ≤ 9223372036854775807 ∧ w.heap[g]? = some (.cells #[.slice a n c, .int .i64 k, .int .u64 s] 85 (0, 0)) ∧
    ∀ i, i < n → ∃ (b o : Nat) (v : Int), a = some ⟨b, o, none⟩ ∧ b < g ∧ w.cell? ⟨b, o + i, none⟩ = some (.int .u8 v) ∧ 0 ≤ v ∧ v < 256

theorem grown_cell {w w' : World} {g : Nat} (h : w.grownBy w' (some g)) (p : Addr) (hp : p.block < w.heap.size) (hne : p.block ≠ g) : w'.cell? p = w.cell? p := by
  unfold World.cell?
  rw [h.block p.block hp (fun e => hne (Option.some.inj e))]

theorem Cur.le {w : World} {g K K' : Nat} (h : Cur w g K) (hk : K ≤ K') : Cur w g K' := by
  obtain ⟨a, n, c, k, s, h1, h2⟩ := h
  exact ⟨a, n, c, k, s, by omega, h2⟩

set_option maxHeartbeats 1000000 in
theorem c_next (g K : Nat) (w : World) (h : Cur w g K) (hK : K ≤ 1000000000000) :
    Calls Try.prog 115 #[.pointer (some ⟨g, 0, none⟩)] w fun e w' => (∃ v : Int, e = .returned (.int .i64 v) ∧ 0 ≤ v ∧ v < 256) ∧ Cur w' g (K + 1) ∧ w.grownBy w' (some g) := by
  obtain ⟨a, n, c, k, s, hk, hn, hr, hb⟩ := h
  have HR := hid hr
  have HB := hid hb
  have n0 := cell_of_row w _ 0 _ _ (0, 0) hr
  have n1 := cell_of_row w _ 1 _ _ (0, 0) hr
  have n2 := cell_of_row w _ 2 _ _ (0, 0) hr
  have f1 := frozen_of_row w _ 1 _ _ hr
  have f2 := frozen_of_row w _ 2 _ _ hr
  simp only [List.getElem?_toArray, List.getElem?_cons_zero, List.getElem?_cons_succ] at n0 n1 n2
  have hz : g < w.heap.size := World.block_lt_of_cell? w _ n0
  clear hr hb
  by_cases hlt : k < n
  · obtain ⟨b, o, v, rfl, hbg, hcl, v0, v1⟩ := HB.out k hlt
    have hbz : b < w.heap.size := by omega
    have hne : ¬ b = g := by omega
    have hne2 : ¬ g = b := by omega
    have i0 : (0 : Int) ≤ (k : Int) := by omega
    have i1 : (k : Int) < (n : Int) := by omega
    go_enter Try.func115, Try.ntmps115
    go_wp2
    go_quiet (fail)
    go_wp2
    go_quiet (fail)
    have hw1 := IntWalk.i64_in ((k : Int) + 1) (by omega)
    go_upto_region 6 with fail
    generalize hwd : w.drewN _ = wd
    have hr1 : wd.heap[g]? = some (.cells #[.slice (some ⟨b, o, none⟩) n c, .int .i64 k, .int .u64 s] 85 (0, 0)) := by rw [← hwd]; exact HR.out
    have hbd : Below w.heap.size w wd := by rw [← hwd]; exact bdraws _
    generalize IntKind.u64.wrap (IntKind.u64.wrap (IntKind.u64.wrap (s * 6364136223846793005) + v) + 853853) = s1 at *
    have r7 := heap_setCell_same _ _ 2 _ _ (.int .u64 s1) (heap_setCell_same _ _ 1 _ _ (.int .i64 ((k : Int) + 1)) hr1)
    simp only [List.setIfInBounds_toArray, List.set_cons_zero, List.set_cons_succ] at r7
    have hg2 : w.grownBy ((wd.setCell ⟨g, 1, none⟩ (.int .i64 ((k : Int) + 1))).setCell ⟨g, 2, none⟩ (.int .u64 s1)) (some g) := grownBy_trans (grownBy_trans (grown_of_below hbd _) (grown_setCell wd g 1 _)) (grown_setCell _ g 2 _)
    have hcur : Cur ((wd.setCell ⟨g, 1, none⟩ (.int .i64 ((k : Int) + 1))).setCell ⟨g, 2, none⟩ (.int .u64 s1)) g (K + 1) := by
      refine ⟨_, n, c, k + 1, s1, by omega, hn, by rw [r7]; rfl, fun i hi => ?_⟩
      obtain ⟨b, o, v, e, h1, h2, h3⟩ := HB.out i hi
      exact ⟨b, o, v, e, h1, (grown_cell hg2 ⟨b, o + i, none⟩ (by show b < _; omega) (by show b ≠ g; omega)).trans h2, h3⟩
    have m0 := cell_of_row _ _ 0 _ _ (0, 0) r7
    have m1 := cell_of_row _ _ 1 _ _ (0, 0) r7
    have m2 := cell_of_row _ _ 2 _ _ (0, 0) r7
    simp only [List.getElem?_toArray, List.getElem?_cons_zero, List.getElem?_cons_succ] at m0 m1 m2
    have HC := hid hcur
    have HG2 := hid hg2
    generalize (wd.setCell ⟨g, 1, none⟩ (.int .i64 ((k : Int) + 1))).setCell ⟨g, 2, none⟩ (.int .u64 s1) = w6 at *
    clear n0 n1 n2 f1 f2 hwd hr1 hbd r7 hg2 hcur
    have hz6 : g < w6.heap.size := World.block_lt_of_cell? w6 _ m0
    have hle : (k : Int) + 1 ≤ (n : Int) := by omega
    go_quiet (fail)
    go_wp2
    go_ret
    exact ⟨⟨v, rfl, v0, v1⟩, HC.out, grownBy_trans HG2.out (grown_of_below (bdraws _) _)⟩
  · have hd : decide ((k : Int) < (n : Int)) = false := by simp; omega
    go_enter Try.func115, Try.ntmps115
    go_wp2
    go_quiet (fail)
    have hw1 := IntWalk.i64_in ((k : Int) + 1) (by omega)
    go_upto_region 6 with fail
    generalize hwd : w.drewN _ = wd
    have hr1 : wd.heap[g]? = some (.cells #[.slice a n c, .int .i64 k, .int .u64 s] 85 (0, 0)) := by rw [← hwd]; exact HR.out
    have hbd : Below w.heap.size w wd := by rw [← hwd]; exact bdraws _
    have hrange : 0 ≤ IntKind.u64.wrap (IntKind.u64.wrap (IntKind.u64.wrap (s * 6364136223846793005)) + 853853) ∧ IntKind.u64.wrap (IntKind.u64.wrap (IntKind.u64.wrap (s * 6364136223846793005)) + 853853) < 18446744073709551616 := by rw [IntKind.wrap_u64]; omega
    generalize IntKind.u64.wrap (IntKind.u64.wrap (IntKind.u64.wrap (s * 6364136223846793005)) + 853853) = s1 at *
    have r7 := heap_setCell_same _ _ 2 _ _ (.int .u64 s1) (heap_setCell_same _ _ 1 _ _ (.int .i64 ((k : Int) + 1)) hr1)
    simp only [List.setIfInBounds_toArray, List.set_cons_zero, List.set_cons_succ] at r7
    have hg2 : w.grownBy ((wd.setCell ⟨g, 1, none⟩ (.int .i64 ((k : Int) + 1))).setCell ⟨g, 2, none⟩ (.int .u64 s1)) (some g) := grownBy_trans (grownBy_trans (grown_of_below hbd _) (grown_setCell wd g 1 _)) (grown_setCell _ g 2 _)
    have hcur : Cur ((wd.setCell ⟨g, 1, none⟩ (.int .i64 ((k : Int) + 1))).setCell ⟨g, 2, none⟩ (.int .u64 s1)) g (K + 1) := by
      refine ⟨_, n, c, k + 1, s1, by omega, hn, by rw [r7]; rfl, fun i hi => ?_⟩
      obtain ⟨b, o, v, e, h1, h2, h3⟩ := HB.out i hi
      exact ⟨b, o, v, e, h1, (grown_cell hg2 ⟨b, o + i, none⟩ (by show b < _; omega) (by show b ≠ g; omega)).trans h2, h3⟩
    have m0 := cell_of_row _ _ 0 _ _ (0, 0) r7
    have m1 := cell_of_row _ _ 1 _ _ (0, 0) r7
    have m2 := cell_of_row _ _ 2 _ _ (0, 0) r7
    simp only [List.getElem?_toArray, List.getElem?_cons_zero, List.getElem?_cons_succ] at m0 m1 m2
    have HC := hid hcur
    have HG2 := hid hg2
    generalize (wd.setCell ⟨g, 1, none⟩ (.int .i64 ((k : Int) + 1))).setCell ⟨g, 2, none⟩ (.int .u64 s1) = w6 at *
    clear n0 n1 n2 f1 f2 hwd hr1 hbd r7 hg2 hcur
    have hz6 : g < w6.heap.size := World.block_lt_of_cell? w6 _ m0
    have hle : ¬ (k : Int) + 1 ≤ (n : Int) := by omega
    go_quiet (fail)
    go_wp2
    have hv : bits .and .u64 (s1 / 1099511627776) 255 = (s1 / 1099511627776) % 256 := by
      have h := bits_mask .u64 63 (by decide) (fun n h0 h1 => by rw [IntKind.wrap_u64]; omega) 8 (by decide) (s1 / 1099511627776) (by omega) (by omega)
      have e : ((2 : Int) ^ 8 - 1) = 255 := by decide
      have e2 : ((2 : Int) ^ 8) = 256 := by decide
      rw [e, e2] at h
      exact h
    rw [hv]
    have hv2 : wrap64 (s1 / 1099511627776 % 256) = s1 / 1099511627776 % 256 := by unfold wrap64; omega
    rw [hv2]
    go_ret
    exact ⟨⟨_, rfl, by omega, by omega⟩, HC.out, grownBy_trans HG2.out (grown_of_below (bdraws _) _)⟩

theorem IntsAt.lit (w : World) (e : TypeId) (l : List Int) : IntsAt (w.alloc (.cells (l.map fun x => .int .i64 x).toArray e)) (some ⟨w.heap.size, 0, none⟩) l.length l := by
  refine ⟨rfl, fun i hi => ⟨w.heap.size, 0, rfl, by simp, ?_⟩⟩
  rw [cell_of_row _ _ _ _ _ (0, 0) (heap_alloc_new _ _)]
  simp [hi]

theorem IntsAt.lit' (w : World) (e : TypeId) (l : List Int) {cs : Array Value} {b : Nat} (hcs : cs = (l.map fun x => Value.int .i64 x).toArray) (hb : b = w.heap.size) : IntsAt (w.alloc (.cells cs e)) (some ⟨b, 0, none⟩) l.length l := by
  subst hb
  subst hcs
  exact IntsAt.lit w e l

set_option maxHeartbeats 1000000 in
theorem c_pick (g K : Nat) (n : Int) (w : World) (h : Cur w g K) (hK : K ≤ 900000000000) (hn : -9223372036854775808 ≤ n ∧ n ≤ 9223372036854775807) :
    Calls Try.prog 92 #[.pointer (some ⟨g, 0, none⟩), .int .i64 n] w fun e w' => (∃ v : Int, e = .returned (.int .i64 v) ∧ 0 ≤ v ∧ (v < n ∨ v = 0)) ∧ Cur w' g (K + 2) ∧ w.grownBy w' (some g) := by
  have H := hid h
  clear h
  by_cases h1 : n ≤ 1
  · go_enter Try.func92, Try.ntmps92
    go_wp2
    go_ret
    exact ⟨⟨0, rfl, by omega, .inr rfl⟩, Cur.le H.out (by omega), grown_of_below (Below.refl _ _) _⟩
  · by_cases h2 : 200 < n
    · go_enter Try.func92, Try.ntmps92
      go_wp2_with fail
      refine (c_next g K _ H.out (by omega)).mono ?_
      rintro e w1 ⟨⟨v, rfl, v0, v1⟩, hc1, hg1⟩
      have HC1 := hid hc1
      have HG1 := hid hg1
      have hw1 := IntWalk.i64_in (v * 256) (by omega)
      clear hc1 hg1
      go_wp2_with fail
      refine (c_next g (K + 1) _ HC1.out (by omega)).mono ?_
      rintro e w2 ⟨⟨u, rfl, u0, u1⟩, hc2, hg2⟩
      have HC2 := hid hc2
      have HG2 := hid (grownBy_trans HG1.out hg2)
      have hw2 := IntWalk.i64_in (v * 256 + u) (by omega)
      clear hc2 hg2
      go_wp2
      go_ret
      exact ⟨⟨_, rfl, Int.emod_nonneg _ (by omega), .inl (Int.emod_lt_of_pos _ (by omega))⟩, HC2.out, HG2.out⟩
    · go_enter Try.func92, Try.ntmps92
      go_wp2_with fail
      refine (c_next g K _ H.out (by omega)).mono ?_
      rintro e w1 ⟨⟨v, rfl, v0, v1⟩, hc1, hg1⟩
      have HC1 := hid hc1
      have HG1 := hid hg1
      clear hc1 hg1
      go_wp2
      go_ret
      exact ⟨⟨_, rfl, Int.emod_nonneg _ (by omega), .inl (Int.emod_lt_of_pos _ (by omega))⟩, HC1.out.le (by omega), HG1.out⟩

theorem c_one (g K : Nat) (n : Int) (w : World) (h : Cur w g K) (hK : K ≤ 900000000000) (hn : -9223372036854775808 ≤ n ∧ n ≤ 9223372036854775807) :
    Calls Try.prog 98 #[.pointer (some ⟨g, 0, none⟩), .int .i64 n] w fun e w' => (∃ b : Bool, e = .returned (.bool b)) ∧ Cur w' g (K + 2) ∧ w.grownBy w' (some g) := by
  have H := hid h
  clear h
  go_enter Try.func98, Try.ntmps98
  go_wp2_with fail
  refine (c_pick g K n _ H.out hK hn).mono ?_
  rintro e w1 ⟨⟨v, rfl, v0, v1⟩, hc1, hg1⟩
  have HC1 := hid hc1
  have HG1 := hid hg1
  clear hc1 hg1
  go_wp2
  go_ret
  exact ⟨⟨_, rfl⟩, HC1.out, HG1.out⟩

theorem c_among (g K b n c : Nat) (l : List Int) (w : World) (h : Cur w g K) (hK : K ≤ 900000000000) (hl : IntsAt w (some ⟨b, 0, none⟩) n l) (hne : b ≠ g) (hn : 0 < n) (hn2 : n ≤ 1000) :
    Calls Try.prog 91 #[.pointer (some ⟨g, 0, none⟩), .slice (some ⟨b, 0, none⟩) n c] w fun e w' => (∃ v : Int, e = .returned (.int .i64 v) ∧ v ∈ l) ∧ Cur w' g (K + 2) ∧ w.grownBy w' (some g) := by
  have H := hid h
  have HL := hid hl
  clear h hl
  go_enter Try.func91, Try.ntmps91
  go_wp2_with fail
  refine (c_pick g K n _ H.out hK (by omega)).mono ?_
  rintro e w1 ⟨⟨v, rfl, v0, v1⟩, hc1, hg1⟩
  have HC1 := hid hc1
  have HG1 := hid hg1
  obtain ⟨i, rfl⟩ : ∃ i : Nat, v = i := ⟨v.toNat, by omega⟩
  have hi : i < n := by omega
  have hi2 : (i : Int) < (n : Int) := by omega
  obtain ⟨b1, o1, e1, hb1, hcl⟩ := HL.out.2 i hi
  simp only [Option.some.injEq, Addr.mk.injEq] at e1
  obtain ⟨rfl, rfl, -⟩ := e1
  have hcl1 := (grown_cell hg1 ⟨b, 0 + i, none⟩ hb1 hne).trans hcl
  rw [Nat.zero_add] at hcl1
  clear hc1 hg1 hcl v1
  go_wp2
  go_ret
  exact ⟨⟨_, rfl, getD_mem l i (by have := HL.out.1; omega)⟩, HC1.out, HG1.out⟩

end Go.Proofs.Ytpmffboojkfpdaa

/-
  The cursor: what goes with it through memory.
-/
set_option linter.unusedVariables false
set_option linter.unusedSimpArgs false
namespace Go.Proofs.Ytpmffboojkfpdaa
open Go.RowKit

theorem Cur.kept {w w' : World} {g K : Nat} {row : Option Nat} (h : Cur w g K) (hg : w.grownBy w' row) (hr : ∀ k, row = some k → g < k) : Cur w' g K := by
  obtain ⟨a, n, c, k, s, h1, h2, h3, h4⟩ := h
  have hz : g < w.heap.size := by
    apply Classical.byContradiction
    intro hz
    rw [Array.getElem?_eq_none (by omega)] at h3
    cases h3
  refine ⟨a, n, c, k, s, h1, h2, by rw [hg.block g hz (fun e => by have := hr g e.symm; omega)]; exact h3, fun i hi => ?_⟩
  obtain ⟨b, o, v, e, h5, h6, h7⟩ := h4 i hi
  refine ⟨b, o, v, e, h5, ?_, h7⟩
  rw [← h6]
  unfold World.cell?
  rw [hg.block b (by omega) (fun e => by have := hr b e.symm; omega)]
theorem Cur.below {w w' : World} {g K : Nat} (h : Cur w g K) (hb : Below w.heap.size w w') : Cur w' g K := h.kept (grown_of_below hb none) (fun k e => by cases e)
theorem Cur.lt {w : World} {g K : Nat} (h : Cur w g K) : g < w.heap.size := by
  obtain ⟨a, n, c, k, s, h1, h2, h3, h4⟩ := h
  apply Classical.byContradiction
  intro hz
  rw [Array.getElem?_eq_none (by omega)] at h3
  cases h3
theorem grown_step {w a b : World} {g : Nat} {row : Option Nat} (h1 : w.grownBy a (some g)) (h2 : a.grownBy b row) (hr : ∀ k, row = some k → w.heap.size ≤ k ∨ k = g) : w.grownBy b (some g) := by
  refine ⟨h2.os.trans h1.os, h2.tape.trans h1.tape, h2.output.trans h1.output, Nat.le_trans h1.size h2.size, fun i hi hne => ?_⟩
  rw [h2.block i (by have := h1.size; omega) (fun e => ?_), h1.block i hi hne]
  rcases hr i e.symm with h | h
  · omega
  · exact hne (by rw [h])
theorem ownI_ne {w : World} {B g : Nat} {v : Value} {l : List Int} (h : OwnI w B v l) (hg : g < B) : v.ownBlock = none ∨ v.ownBlock ≠ some g := by
  cases e : v.ownBlock with
  | none => exact .inl rfl
  | some k => exact .inr (fun e2 => by have h1 := (h.lt k e).1; have := Option.some.inj e2; omega)

theorem Cur.set {w : World} {g K b j : Nat} {u : Value} (h : Cur w g K) (hb : g < b) : Cur (w.setCell ⟨b, j, none⟩ u) g K := h.kept (grown_setCell w b j u) (fun k e => by cases e; exact hb)
theorem grown_set {w a : World} {g b j : Nat} {u : Value} (h : w.grownBy a (some g)) (hb : w.heap.size ≤ b) : w.grownBy (a.setCell ⟨b, j, none⟩ u) (some g) := grown_step h (grown_setCell a b j u) (fun k e => by cases e; exact .inl hb)

theorem own_old {v : Value} {g Z : Nat} (hl : ∀ k, v.ownBlock = some k → k < Z) (hg : Z ≤ g) : v.ownBlock = none ∨ v.ownBlock ≠ some g := by
  cases e : v.ownBlock with
  | none => exact .inl rfl
  | some k => exact .inr (fun e2 => by have h1 := hl k e; have := Option.some.inj e2; omega)

/-- Bytes in memory. -/
def BytesAt (w : World) (a : Option Addr) (n : Nat) : Prop := n ≤ 9223372036854775807 ∧ ∀ i, i < n → ∃ (b o : Nat) (v : Int), a = some ⟨b, o, none⟩ ∧ b < w.heap.size ∧ w.cell? ⟨b, o + i, none⟩ = some (.int .u8 v) ∧ 0 ≤ v ∧ v < 256
theorem BytesAt.below {w w' : World} {a : Option Addr} {n : Nat} (h : BytesAt w a n) (hb : Below w.heap.size w w') : BytesAt w' a n :=
  ⟨h.1, fun i hi => by
    obtain ⟨b, o, v, h1, h2, h3, h4⟩ := h.2 i hi
    exact ⟨b, o, v, h1, Nat.lt_of_lt_of_le h2 hb.size, (hb.cell (p := ⟨b, o + i, none⟩) h2).trans h3, h4⟩⟩
theorem Cur.start {w : World} {a : Option Addr} {n c g : Nat} (h : BytesAt w a n) (hg : g = w.heap.size) : Cur (w.alloc (.cells #[.slice a n c, .int .i64 0, .int .u64 0] 85)) g 0 := by
  subst hg
  refine ⟨a, n, c, 0, 0, Nat.le_refl _, h.1, heap_alloc_new _ _, fun i hi => ?_⟩
  obtain ⟨b, o, v, h1, h2, h3, h4⟩ := h.2 i hi
  refine ⟨b, o, v, h1, h2, ?_, h4⟩
  rw [← h3]
  unfold World.cell?
  rw [Below.heap_alloc _ _ _ h2]

theorem two_of {w : World} {b : Nat} {x y : Value} {t : TypeId} (h : w.heap[b]? = some (.cells #[x, y] t (0, 0))) : w.cell? ⟨b, 0, none⟩ = some x ∧ w.cell? ⟨b, 1, none⟩ = some y :=
  ⟨by rw [cell_of_row w _ _ _ _ (0, 0) h]; rfl, by rw [cell_of_row w _ _ _ _ (0, 0) h]; rfl⟩

end Go.Proofs.Ytpmffboojkfpdaa

/-
  Draws out of a list that is cut short by a draw.
-/
set_option linter.unusedVariables false
set_option linter.unusedSimpArgs false
namespace Go.Proofs.Ytpmffboojkfpdaa
open Go.RowKit

theorem ints_take {w : World} {a : Option Addr} {n k : Nat} {l : List Int} (h : IntsAt w a n l) (hk : k ≤ n) : IntsAt w a k (l.take k) :=
  ⟨by rw [List.length_take, h.1]; omega, fun j hj => by
    obtain ⟨b, o, h1, h2, h3⟩ := h.2 j (by omega)
    exact ⟨b, o, h1, h2, by rw [h3, List.getElem?_take_of_lt hj]⟩⟩

set_option maxHeartbeats 4000000 in
theorem c_hour6 (g K : Nat) (w : World) (h : Cur w g K) (hK : K ≤ 100000000000) :
    Calls Try.prog 87 #[.pointer (some ⟨g, 0, none⟩)] w fun e w' => (∃ v : Int, e = .returned (.int .i64 v)) ∧ Cur w' g (K + 4) ∧ w.grownBy w' (some g) := by
  have H := hid h
  have hgz := h.lt
  clear h
  go_enter Try.func87, Try.ntmps87
  go_wp2_with fail
  refine (c_pick g K 24 _ (H.out.below (by go_grown)) (by omega) (by omega)).mono ?_
  rintro e w5 ⟨⟨v, rfl, hv0, hv1⟩, hc5, hg5⟩
  have I0 : IntsAt (w.alloc _) (some ⟨w.heap.size, 0, none⟩) 8 [0, 1, 7, 12, 22, 23, -1, 24] := IntsAt.lit' w 3 [0, 1, 7, 12, 22, 23, -1, 24] rfl rfl
  have I5 := hid (I0.kept hg5 (fun b o e e2 => by simp only [Option.some.injEq, Addr.mk.injEq] at e; have := Option.some.inj e2; omega))
  have W5 := hid (show Cur w5 g (K + 2) ∧ w.grownBy w5 (some g) from ⟨hc5, grownBy_trans (grown_of_below (by go_grown) _) hg5⟩)
  obtain ⟨k, hk⟩ : ∃ k : Nat, 6 + v.tdiv 11 = (k : Int) := ⟨(6 + v.tdiv 11).toNat, by rw [Int.tdiv_eq_ediv_of_nonneg hv0]; omega⟩
  have hk2 : 6 ≤ k ∧ k ≤ 8 := by rw [Int.tdiv_eq_ediv_of_nonneg hv0] at hk; omega
  have hw1 : IntKind.i64.wrap (v.tdiv 11) = v.tdiv 11 := IntWalk.i64_in _ (by rw [Int.tdiv_eq_ediv_of_nonneg hv0]; omega)
  have hw2 : IntKind.i64.wrap (6 + v.tdiv 11) = (k : Int) := by rw [hk]; exact IntWalk.i64_in _ (by omega)
  have hk3 : (k : Int) ≤ 8 := by omega
  clear hc5 hg5 hv0 hv1 hk I0
  go_wp2_with fail
  refine (c_among g _ w.heap.size k _ ([0, 1, 7, 12, 22, 23, -1, 24].take k) _ W5.out.1 (by omega) (ints_take I5.out (by omega)) (by omega) (by omega) (by omega)).mono ?_
  rintro e w6 ⟨⟨u, rfl, hu⟩, hc6, hg6⟩
  have W6 := hid (show Cur w6 g (K + 4) ∧ w.grownBy w6 (some g) from ⟨hc6, grownBy_trans W5.out.2 hg6⟩)
  clear hc6 hg6 hu
  go_wp2
  go_ret
  exact ⟨⟨_, rfl⟩, W6.out.1, W6.out.2⟩
set_option maxHeartbeats 4000000 in
theorem c_base (g K : Nat) (w : World) (h : Cur w g K) (hK : K ≤ 100000000000) :
    Calls Try.prog 94 #[.pointer (some ⟨g, 0, none⟩)] w fun e w' => (∃ v : Int, e = .returned (.int .i64 v)) ∧ Cur w' g (K + 4) ∧ w.grownBy w' (some g) := by
  have H := hid h
  have hgz := h.lt
  clear h
  go_enter Try.func94, Try.ntmps94
  go_wp2_with fail
  refine (c_pick g K 24 _ (H.out.below (by go_grown)) (by omega) (by omega)).mono ?_
  rintro e w5 ⟨⟨v, rfl, hv0, hv1⟩, hc5, hg5⟩
  have I0 : IntsAt (w.alloc _) (some ⟨w.heap.size, 0, none⟩) 7 [0, 1, 50, 333, 100000, -1, 100001] := IntsAt.lit' w 3 [0, 1, 50, 333, 100000, -1, 100001] rfl rfl
  have I5 := hid (I0.kept hg5 (fun b o e e2 => by simp only [Option.some.injEq, Addr.mk.injEq] at e; have := Option.some.inj e2; omega))
  have W5 := hid (show Cur w5 g (K + 2) ∧ w.grownBy w5 (some g) from ⟨hc5, grownBy_trans (grown_of_below (by go_grown) _) hg5⟩)
  obtain ⟨k, hk⟩ : ∃ k : Nat, 5 + v.tdiv 11 = (k : Int) := ⟨(5 + v.tdiv 11).toNat, by rw [Int.tdiv_eq_ediv_of_nonneg hv0]; omega⟩
  have hk2 : 5 ≤ k ∧ k ≤ 7 := by rw [Int.tdiv_eq_ediv_of_nonneg hv0] at hk; omega
  have hw1 : IntKind.i64.wrap (v.tdiv 11) = v.tdiv 11 := IntWalk.i64_in _ (by rw [Int.tdiv_eq_ediv_of_nonneg hv0]; omega)
  have hw2 : IntKind.i64.wrap (5 + v.tdiv 11) = (k : Int) := by rw [hk]; exact IntWalk.i64_in _ (by omega)
  have hk3 : (k : Int) ≤ 7 := by omega
  clear hc5 hg5 hv0 hv1 hk I0
  go_wp2_with fail
  refine (c_among g _ w.heap.size k _ ([0, 1, 50, 333, 100000, -1, 100001].take k) _ W5.out.1 (by omega) (ints_take I5.out (by omega)) (by omega) (by omega) (by omega)).mono ?_
  rintro e w6 ⟨⟨u, rfl, hu⟩, hc6, hg6⟩
  have W6 := hid (show Cur w6 g (K + 4) ∧ w.grownBy w6 (some g) from ⟨hc6, grownBy_trans W5.out.2 hg6⟩)
  clear hc6 hg6 hu
  go_wp2
  go_ret
  exact ⟨⟨_, rfl⟩, W6.out.1, W6.out.2⟩

end Go.Proofs.Ytpmffboojkfpdaa

/-
  Split flows, in plain lists: the leastS sums, and the greedy way that finds the first of the best splits.
-/
set_option linter.unusedVariables false
set_option linter.unusedSimpArgs false
namespace Go.Proofs.Ytpmffboojkfpdaa
open Go.RowKit

def mins (f : Nat → Int) : Nat → Int
  | 0 => 1099511627776
  | k + 1 => min (mins f k) (f k)
theorem mins_le (f : Nat → Int) : ∀ (k p : Nat), p < k → mins f k ≤ f p
  | 0, _, h => by omega
  | k + 1, p, h => by
    unfold mins
    by_cases e : p = k
    · subst e; omega
    · have := mins_le f k p (by omega)
      omega
theorem mins_top (f : Nat → Int) : ∀ k, mins f k ≤ 1099511627776
  | 0 => by unfold mins; omega
  | k + 1 => by
    unfold mins
    have := mins_top f k
    omega
theorem mins_at (f : Nat → Int) : ∀ k, mins f k = 1099511627776 ∨ ∃ p, p < k ∧ mins f k = f p
  | 0 => .inl rfl
  | k + 1 => by
    unfold mins
    rcases mins_at f k with h | ⟨p, hp, h⟩
    · by_cases e : f k ≤ mins f k
      · exact .inr ⟨k, by omega, by omega⟩
      · left; omega
    · by_cases e : f k ≤ mins f k
      · exact .inr ⟨k, by omega, by omega⟩
      · exact .inr ⟨p, by omega, by omega⟩

/-- The energy of a part. -/
def cube (s q : Int) : Int := s * q * q * q
def costs : List Int → List Nat → Int
  | s :: S, q :: P => cube s q + costs S P
  | _, _ => 0
/-- The leastS sum of the pipes for a flow. -/
def leastS : List Int → Nat → Int
  | [], q => if q = 0 then 0 else 1099511627776
  | s :: S, q => mins (fun p => cube s p + leastS S (q - p)) (q + 1)
theorem least_le : ∀ (S : List Int) (P : List Nat), P.length = S.length → leastS S P.sum ≤ costs S P
  | [], P, h => by
    obtain rfl : P = [] := List.eq_nil_of_length_eq_zero h
    simp [leastS, costs]
  | s :: S, [], h => by simp at h
  | s :: S, q :: P, h => by
    have ih := least_le S P (by simpa using h)
    unfold leastS costs
    have := mins_le (fun p => cube s p + leastS S ((q :: P).sum - p)) ((q :: P).sum + 1) q (by simp; omega)
    simp only [List.sum_cons, Nat.add_sub_cancel_left] at this
    simp only [List.sum_cons]
    omega
theorem cube_nonneg {s q : Int} (hs : 0 ≤ s) (hq : 0 ≤ q) : 0 ≤ cube s q := by
  unfold cube
  exact Int.mul_nonneg (Int.mul_nonneg (Int.mul_nonneg hs hq) hq) hq
theorem least_top : ∀ (S : List Int) (q : Nat), leastS S q ≤ 1099511627776
  | [], q => by unfold leastS; split <;> omega
  | s :: S, q => by unfold leastS; exact mins_top _ _
theorem least_at : ∀ (S : List Int) (q : Nat), (∀ s ∈ S, 1 ≤ s) → leastS S q = 1099511627776 ∨ ∃ P : List Nat, P.length = S.length ∧ P.sum = q ∧ costs S P = leastS S q
  | [], q, _ => by
    by_cases h : q = 0
    · exact .inr ⟨[], rfl, by simp [h], by simp [leastS, costs, h]⟩
    · left; simp [leastS, h]
  | s :: S, q, hs => by
    unfold leastS
    rcases mins_at (fun p => cube s p + leastS S (q - p)) (q + 1) with h | ⟨p, hp, h⟩
    · exact .inl h
    · rcases least_at S (q - p) (fun x hx => hs x (by simp [hx])) with h2 | ⟨P, h1, h2, h3⟩
      · left
        have := mins_top (fun p => cube s p + leastS S (q - p)) (q + 1)
        have := cube_nonneg (s := s) (q := (p : Int)) (by have := hs s (by simp); omega) (by omega)
        omega
      · exact .inr ⟨p :: P, by simp [h1], by simp [h2]; omega, by rw [h, costs, h3]⟩

/-- What one unit more costs. -/
def marg (s q : Int) : Int := cube s (q + 1) - cube s q
theorem marg_eq (s q : Int) : marg s q = s * (3 * q * q + 3 * q + 1) := by
  unfold marg cube
  simp only [Int.mul_add, Int.add_mul, Int.mul_one, Int.one_mul]
  have e1 : s * (3 * q * q) = 3 * (s * q * q) := by
    rw [show (3 : Int) * q * q = 3 * (q * q) from Int.mul_assoc _ _ _, ← Int.mul_assoc, Int.mul_comm s 3, Int.mul_assoc, Int.mul_assoc]
  have e2 : s * (3 * q) = 3 * (s * q) := by rw [← Int.mul_assoc, Int.mul_comm s 3, Int.mul_assoc]
  rw [e1, e2]
  omega
theorem marg_lt {s p q : Int} (hs : 1 ≤ s) (hp : 0 ≤ p) (h : p < q) : marg s p < marg s q := by
  rw [marg_eq, marg_eq]
  have h1 : p * p ≤ q * q := Int.mul_le_mul (by omega) (by omega) hp (by omega)
  have h2 : 3 * p * p + 3 * p + 1 < 3 * q * q + 3 * q + 1 := by
    rw [Int.mul_assoc, Int.mul_assoc]
    omega
  exact Int.mul_lt_mul_of_pos_left h2 (by omega)
theorem marg_le {s p q : Int} (hs : 1 ≤ s) (hp : 0 ≤ p) (h : p ≤ q) : marg s p ≤ marg s q := by
  by_cases e : p = q
  · subst e; omega
  · have := marg_lt hs hp (show p < q by omega)
    omega
theorem cube_up {s : Int} (hs : 1 ≤ s) (g : Nat) : ∀ d : Nat, cube s ((g + d : Nat) : Int) - cube s g ≥ (d : Int) * marg s g
  | 0 => by simp
  | d + 1 => by
    have ih := cube_up hs g d
    have h1 := marg_le (p := (g : Int)) (q := ((g + d : Nat) : Int)) hs (by omega) (by omega)
    have e : cube s ((g + (d + 1) : Nat) : Int) - cube s ((g + d : Nat) : Int) = marg s ((g + d : Nat) : Int) := by
      unfold marg
      rw [show (((g + (d + 1) : Nat) : Int)) = ((g + d : Nat) : Int) + 1 by omega]
    have e2 : ((d + 1 : Nat) : Int) * marg s g = (d : Int) * marg s g + marg s g := by rw [Int.natCast_add, Int.add_mul]; simp
    omega
theorem cube_down {s : Int} (hs : 1 ≤ s) (p : Nat) : ∀ d : Nat, cube s ((p + d : Nat) : Int) - cube s p ≤ (d : Int) * marg s (((p + d : Nat) : Int) - 1)
  | 0 => by simp
  | d + 1 => by
    have ih := cube_down hs p d
    have e : cube s ((p + (d + 1) : Nat) : Int) - cube s ((p + d : Nat) : Int) = marg s ((p + d : Nat) : Int) := by
      unfold marg
      rw [show (((p + (d + 1) : Nat) : Int)) = ((p + d : Nat) : Int) + 1 by omega]
    have e3 : ((p + (d + 1) : Nat) : Int) - 1 = ((p + d : Nat) : Int) := by omega
    rw [e3]
    have e2 : ((d + 1 : Nat) : Int) * marg s ((p + d : Nat) : Int) = (d : Int) * marg s ((p + d : Nat) : Int) + marg s ((p + d : Nat) : Int) := by rw [Int.natCast_add, Int.add_mul]; simp
    by_cases h0 : d = 0
    · subst h0
      simp at ih e e2 ⊢
      omega
    · have h1 : marg s (((p + d : Nat) : Int) - 1) ≤ marg s ((p + d : Nat) : Int) := marg_le hs (by omega) (by omega)
      have h2 : (d : Int) * marg s (((p + d : Nat) : Int) - 1) ≤ (d : Int) * marg s ((p + d : Nat) : Int) := Int.mul_le_mul_of_nonneg_left h1 (by omega)
      omega
/-- A price between the last units taken and the next ones: no other split of the same flow costs less. -/
theorem cube_price {s L : Int} {g p : Nat} (hs : 1 ≤ s) (hup : L ≤ marg s g) (hdn : 0 < g → marg s ((g : Int) - 1) ≤ L) : cube s p - cube s g ≥ L * ((p : Int) - g) := by
  by_cases h : g ≤ p
  · obtain ⟨d, rfl⟩ : ∃ d, p = g + d := ⟨p - g, by omega⟩
    have h1 := cube_up hs g d
    have h2 : L * (((g + d : Nat) : Int) - g) = (d : Int) * L := by rw [Int.mul_comm]; congr 1; omega
    have h3 : (d : Int) * L ≤ (d : Int) * marg s g := Int.mul_le_mul_of_nonneg_left hup (by omega)
    omega
  · obtain ⟨d, rfl⟩ : ∃ d, g = p + d := ⟨g - p, by omega⟩
    have h1 := cube_down hs p d
    have h2 : L * ((p : Int) - ((p + d : Nat) : Int)) = -((d : Int) * L) := by
      rw [show (p : Int) - ((p + d : Nat) : Int) = -(d : Int) by omega, Int.mul_neg, Int.mul_comm]
    have h3 : (d : Int) * marg s (((p + d : Nat) : Int) - 1) ≤ (d : Int) * L := Int.mul_le_mul_of_nonneg_left (hdn (by omega)) (by omega)
    omega

def sz (S : List Int) (k : Nat) : Int := S[k]?.getD 0
def qt (G : List Nat) (k : Nat) : Nat := G[k]?.getD 0
theorem costs_price {L : Int} : ∀ (S : List Int) (G P : List Nat), G.length = S.length → P.length = S.length → (∀ s ∈ S, 1 ≤ s) → (∀ k, k < S.length → L ≤ marg (sz S k) (qt G k)) → (∀ k, k < S.length → 0 < qt G k → marg (sz S k) ((qt G k : Int) - 1) ≤ L) →
    costs S P - costs S G ≥ L * ((P.sum : Int) - (G.sum : Int))
  | [], G, P, h1, h2, _, _, _ => by
    obtain rfl : G = [] := List.eq_nil_of_length_eq_zero h1
    obtain rfl : P = [] := List.eq_nil_of_length_eq_zero h2
    simp [costs]
  | s :: S, [], P, h1, _, _, _, _ => by simp at h1
  | s :: S, g :: G, [], _, h2, _, _, _ => by simp at h2
  | s :: S, g :: G, p :: P, h1, h2, hs, hu, hd => by
    have ih := costs_price (L := L) S G P (by simpa using h1) (by simpa using h2) (fun x hx => hs x (by simp [hx])) (fun k hk => by simpa [sz, qt] using hu (k + 1) (by simpa using hk)) (fun k hk => by simpa [sz, qt] using hd (k + 1) (by simpa using hk))
    have h0 := cube_price (s := s) (L := L) (g := g) (p := p) (hs s (by simp)) (by simpa [sz, qt] using hu 0 (by simp)) (by simpa [sz, qt] using hd 0 (by simp))
    unfold costs
    simp only [List.sum_cons]
    have e : L * (((p + P.sum : Nat) : Int) - ((g + G.sum : Nat) : Int)) = L * ((p : Int) - g) + L * ((P.sum : Int) - (G.sum : Int)) := by
      rw [← Int.mul_add]; congr 1; omega
    omega

/-- No last unit is dearer than a next one; where it is as dear it stands earlier. -/
def Greedy (S : List Int) (G : List Nat) : Prop := ∀ i j, i < S.length → j < S.length → 0 < qt G i → marg (sz S i) ((qt G i : Int) - 1) < marg (sz S j) (qt G j) ∨ marg (sz S i) ((qt G i : Int) - 1) = marg (sz S j) (qt G j) ∧ i < j
theorem Greedy.tail {s : Int} {S : List Int} {g : Nat} {G : List Nat} (h : Greedy (s :: S) (g :: G)) : Greedy S G := fun i j hi hj h0 => by
  have := h (i + 1) (j + 1) (by simpa using hi) (by simpa using hj) (by simpa [qt] using h0)
  simpa [sz, qt] using this
/-- The dearest of the last units. -/
theorem dearest (S : List Int) (G : List Nat) : ∀ k, (∀ i, i < k → qt G i = 0) ∨ ∃ t, t < k ∧ 0 < qt G t ∧ ∀ i, i < k → 0 < qt G i → marg (sz S i) ((qt G i : Int) - 1) ≤ marg (sz S t) ((qt G t : Int) - 1)
  | 0 => .inl (fun i h => by omega)
  | k + 1 => by
    by_cases h0 : 0 < qt G k
    · rcases dearest S G k with h | ⟨t, ht, h1, h2⟩
      · refine .inr ⟨k, by omega, h0, fun i hi hp => ?_⟩
        by_cases e : i = k
        · subst e; omega
        · have := h i (by omega); omega
      · by_cases hc : marg (sz S t) ((qt G t : Int) - 1) ≤ marg (sz S k) ((qt G k : Int) - 1)
        · refine .inr ⟨k, by omega, h0, fun i hi hp => ?_⟩
          by_cases e : i = k
          · subst e; omega
          · have := h2 i (by omega) hp; omega
        · refine .inr ⟨t, by omega, h1, fun i hi hp => ?_⟩
          by_cases e : i = k
          · subst e; omega
          · exact h2 i (by omega) hp
    · rcases dearest S G k with h | ⟨t, ht, h1, h2⟩
      · left
        intro i hi
        by_cases e : i = k
        · subst e; omega
        · exact h i (by omega)
      · refine .inr ⟨t, by omega, h1, fun i hi hp => ?_⟩
        by_cases e : i = k
        · subst e; omega
        · exact h2 i (by omega) hp
theorem sum_zero : ∀ {G : List Nat}, (∀ i, i < G.length → qt G i = 0) → G.sum = 0
  | [], _ => rfl
  | g :: G, h => by
    have h0 := h 0 (by simp)
    have := sum_zero (G := G) (fun i hi => by simpa [qt] using h (i + 1) (by simpa using hi))
    simp [qt] at h0
    simp [h0, this]
theorem zero_sum : ∀ {G : List Nat}, G.sum = 0 → ∀ i, qt G i = 0
  | [], _, i => by simp [qt]
  | g :: G, h, 0 => by simp at h; simp [qt, h.1]
  | g :: G, h, i + 1 => by simp at h; simpa [qt] using zero_sum (G := G) (by simpa using h.2) i
theorem qt_ext : ∀ {G P : List Nat}, G.length = P.length → (∀ i, qt G i = qt P i) → G = P
  | [], [], _, _ => rfl
  | [], _ :: _, h, _ => by simp at h
  | _ :: _, [], h, _ => by simp at h
  | g :: G, p :: P, h, h2 => by
    have h0 := h2 0
    simp [qt] at h0
    rw [h0, qt_ext (G := G) (P := P) (by simpa using h) (fun i => by simpa [qt] using h2 (i + 1))]
theorem greedy_best {S : List Int} {G P : List Nat} (hG : Greedy S G) (h1 : G.length = S.length) (h2 : P.length = S.length) (hs : ∀ s ∈ S, 1 ≤ s) (he : P.sum = G.sum) : costs S G ≤ costs S P ∧ (0 < S.length → qt G 0 < qt P 0 → costs S G < costs S P) := by
  rcases dearest S G S.length with h | ⟨t, ht, h3, h4⟩
  · have hz := sum_zero (fun i hi => h i (by omega))
    have : G = P := qt_ext (by omega) (fun i => by rw [zero_sum hz i, zero_sum (by omega) i])
    subst this
    exact ⟨by omega, fun _ h => by omega⟩
  · generalize hL : marg (sz S t) ((qt G t : Int) - 1) = L at *
    have hu : ∀ k, k < S.length → L ≤ marg (sz S k) (qt G k) := fun k hk => by
      rcases hG t k ht hk h3 with h | h <;> omega
    have hp := costs_price (L := L) S G P h1 h2 hs hu h4
    have e0 : L * ((P.sum : Int) - (G.sum : Int)) = 0 := by rw [he]; simp
    refine ⟨by omega, fun hl hq => ?_⟩
    cases S with
    | nil => simp at hl
    | cons s S =>
    cases G with
    | nil => simp at h1
    | cons g G =>
    cases P with
    | nil => simp at h2
    | cons p P =>
    simp only [qt, List.getElem?_cons_zero, Option.getD_some] at hq
    have hr := costs_price (L := L) S G P (by simpa using h1) (by simpa using h2) (fun x hx => hs x (by simp [hx])) (fun k hk => by simpa [sz, qt] using hu (k + 1) (by simpa using hk)) (fun k hk => by simpa [sz, qt] using h4 (k + 1) (by simpa using hk))
    have hm : L < marg s g := by
      rcases hG t 0 ht (by simp) h3 with h | h
      · simp [sz, qt] at h hL ⊢; omega
      · omega
    obtain ⟨d, rfl⟩ : ∃ d, p = g + d := ⟨p - g, by omega⟩
    have hc := cube_up (s := s) (hs s (by simp)) g d
    have hdl : (d : Int) * L < (d : Int) * marg s g := Int.mul_lt_mul_of_pos_left hm (by omega)
    unfold costs
    simp only [List.sum_cons] at he
    have e1 : L * ((P.sum : Int) - (G.sum : Int)) = -((d : Int) * L) := by
      rw [show (P.sum : Int) - (G.sum : Int) = -(d : Int) by omega, Int.mul_neg, Int.mul_comm]
    omega
theorem costs_small : ∀ (S : List Int) (P : List Nat), (∀ s ∈ S, 1 ≤ s ∧ s ≤ 9) → (∀ q ∈ P, q ≤ 60) → 0 ≤ costs S P ∧ costs S P ≤ 1944000 * S.length
  | [], P, _, _ => by simp [costs]
  | s :: S, [], _, _ => by simp [costs]; omega
  | s :: S, q :: P, hs, hq => by
    have ih := costs_small S P (fun x hx => hs x (by simp [hx])) (fun x hx => hq x (by simp [hx]))
    obtain ⟨h1, h2⟩ := hs s (by simp)
    have h3 := hq q (by simp)
    have c0 := cube_nonneg (s := s) (q := (q : Int)) (by omega) (by omega)
    have c1 : cube s q ≤ 1944000 := by
      unfold cube
      have a1 : s * (q : Int) ≤ 9 * 60 := Int.mul_le_mul h2 (by omega) (by omega) (by omega)
      have a0 : 0 ≤ s * (q : Int) := Int.mul_nonneg (by omega) (by omega)
      have b1 : s * (q : Int) * q ≤ 9 * 60 * 60 := Int.mul_le_mul a1 (by omega) (by omega) (by omega)
      have b0 : 0 ≤ s * (q : Int) * q := Int.mul_nonneg a0 (by omega)
      have d1 : s * (q : Int) * q * q ≤ 9 * 60 * 60 * 60 := Int.mul_le_mul b1 (by omega) (by omega) (by omega)
      omega
    unfold costs
    simp only [List.length_cons]
    omega
/-- The first part of the best split: the greatest one at which the leastS sum is met. -/
theorem greedy_least {S : List Int} {G : List Nat} (hG : Greedy S G) (h1 : G.length = S.length) (hs : ∀ s ∈ S, 1 ≤ s ∧ s ≤ 9) (hl : S.length ≤ 5) (hq : ∀ q ∈ G, q ≤ 60) : leastS S G.sum = costs S G := by
  have hc := costs_small S G hs hq
  have a := least_le S G h1
  rcases least_at S G.sum (fun s h => (hs s h).1) with h | ⟨P, p1, p2, p3⟩
  · omega
  · have := (greedy_best hG h1 p1 (fun s h => (hs s h).1) p2).1
    omega
theorem greedy_first {s : Int} {S : List Int} {g : Nat} {G : List Nat} (hG : Greedy (s :: S) (g :: G)) (h1 : G.length = S.length) (hs : ∀ x ∈ s :: S, 1 ≤ x ∧ x ≤ 9) (hl : S.length ≤ 4) (hq : ∀ q ∈ g :: G, q ≤ 60) :
    cube s g + leastS S ((g :: G).sum - g) = leastS (s :: S) (g :: G).sum ∧ ∀ q : Nat, g < q → q ≤ (g :: G).sum → cube s q + leastS S ((g :: G).sum - q) ≠ leastS (s :: S) (g :: G).sum := by
  have e1 := greedy_least hG (by simp [h1]) hs (by simp; omega) hq
  have e2 := greedy_least hG.tail h1 (fun x hx => hs x (by simp [hx])) (by omega) (fun x hx => hq x (by simp [hx]))
  have e3 : (g :: G).sum - g = G.sum := by simp
  have hc := costs_small (s :: S) (g :: G) hs hq
  simp only [List.length_cons] at hc
  rw [e1, e3, e2]
  refine ⟨by simp [costs], fun q h2 h3 => ?_⟩
  have h0 := cube_nonneg (s := s) (q := (q : Int)) (by have := (hs s (by simp)).1; omega) (by omega)
  rcases least_at S ((g :: G).sum - q) (fun x h => (hs x (by simp [h])).1) with h | ⟨P, p1, p2, p3⟩
  · omega
  · have := (greedy_best (P := q :: P) hG (by simp [h1]) (by simp [p1]) (fun x h => (hs x h).1) (by simp [p2] at h3 ⊢; omega)).2 (by simp) (by simpa [qt] using h2)
    simp only [costs] at this ⊢
    omega

/-- One unit more, where it costs leastS, first of several. -/
theorem Greedy.more {S : List Int} {G : List Nat} {b : Nat} (hG : Greedy S G) (h1 : G.length = S.length) (hs : ∀ s ∈ S, 1 ≤ s) (hb : b < S.length) (hlt : ∀ j, j < b → marg (sz S b) (qt G b) < marg (sz S j) (qt G j)) (hle : ∀ j, j < S.length → marg (sz S b) (qt G b) ≤ marg (sz S j) (qt G j)) : Greedy S (G.set b (qt G b + 1)) := by
  have hq : ∀ i, qt (G.set b (qt G b + 1)) i = if i = b then qt G b + 1 else qt G i := fun i => by
    unfold qt
    rw [List.getElem?_set]
    by_cases e : b = i
    · subst e; simp [show b < G.length by omega]
    · rw [if_neg e, if_neg (fun h => e h.symm)]
  have hsz : ∀ i, i < S.length → 1 ≤ sz S i := fun i hi => by
    unfold sz
    rw [List.getElem?_eq_getElem hi]
    exact hs _ (List.getElem_mem hi)
  intro i j hi hj h0
  rw [hq i, hq j] at *
  by_cases ei : i = b
  · subst ei
    rw [if_pos rfl]
    have e : (((qt G i + 1 : Nat) : Int)) - 1 = qt G i := by omega
    rw [e]
    by_cases ej : j = i
    · subst ej
      rw [if_pos rfl]
      left
      exact marg_lt (hsz j hj) (by omega) (by omega)
    · rw [if_neg ej]
      have h5 := hle j hj
      by_cases h6 : j < i
      · exact .inl (hlt j h6)
      · by_cases h7 : marg (sz S i) (qt G i) < marg (sz S j) (qt G j)
        · exact .inl h7
        · exact .inr ⟨by omega, by omega⟩
  · rw [if_neg ei] at h0 ⊢
    by_cases ej : j = b
    · subst ej
      rw [if_pos rfl]
      left
      have h5 := marg_lt (s := sz S j) (p := (qt G j : Int)) (q := ((qt G j + 1 : Nat) : Int)) (hsz j hj) (by omega) (by omega)
      rcases hG i j hi hj h0 with h | h <;> omega
    · rw [if_neg ej]
      exact hG i j hi hj h0

end Go.Proofs.Ytpmffboojkfpdaa

