/-
  Texts of this claim, joined: CurN2, TakeH, LastH, Parts, Put, Reached.
-/
import Derived.Deep.RegionLaw
import Derived.Test.YtikjighlnpdgiaaRr1
import Derived.Test.YtikjighlnpdgiaaRr4
/-
  The draws of networks: heads, heights, pipes, networks.
-/
set_option linter.unusedVariables false
set_option linter.unusedSimpArgs false
namespace Go.Proofs.Ytikjighlnpdgiaa
open Go.RowKit



/-- A network in the making: its box, its pipes, the cursor. -/
structure NBox (w W : World) (g b K : Nat) (N : Int) (a : Option Addr) (m c : Nat) (L : List Pip) : Prop where
  cur : Cur W g K
  gro : w.grownBy W (some g)
  box : W.heap[b]? = some (.cells #[.int .i64 N, .slice a m c] 31 (0, 0))
  own : OwnQ W (b + 1) (.slice a m c) L
  lo : w.heap.size ≤ b
  gb : g < w.heap.size
theorem NBox.lt {w W : World} {g b K : Nat} {N : Int} {a : Option Addr} {m c : Nat} {L : List Pip} (h : NBox w W g b K N a m c L) : b < W.heap.size := (Array.getElem?_eq_some_iff.1 h.box).1
theorem ownQ_ne {w : World} {B g : Nat} {v : Value} {l : List Pip} (h : OwnQ w B v l) (hg : g < B) : v.ownBlock = none ∨ v.ownBlock ≠ some g := by
  cases e : v.ownBlock with
  | none => exact .inl rfl
  | some k => exact .inr (fun e2 => by have h1 := (OwnS.lt h k e).1; have := Option.some.inj e2; omega)
theorem NBox.step {w W W' : World} {g b K K' : Nat} {N : Int} {a : Option Addr} {m c : Nat} {L : List Pip} (h : NBox w W g b K N a m c L) (hc : Cur W' g K') (hg : W.grownBy W' (some g)) : NBox w W' g b K' N a m c L :=
  ⟨hc, grownBy_trans h.gro hg, (hg.block b h.lt (fun e => by have := Option.some.inj e; have := h.lo; have := h.gb; omega)).trans h.box, OwnS.kept h.own hg (ownQ_ne h.own (by have := h.lo; have := h.gb; omega)), h.lo, h.gb⟩
theorem NBox.below {w W W' : World} {g b K : Nat} {N : Int} {a : Option Addr} {m c : Nat} {L : List Pip} (h : NBox w W g b K N a m c L) (hb : Below W.heap.size W W') : NBox w W' g b K N a m c L := h.step (h.cur.below hb) (grown_of_below hb _)
theorem NBox.le {w W : World} {g b K K' : Nat} {N : Int} {a : Option Addr} {m c : Nat} {L : List Pip} (h : NBox w W g b K N a m c L) (hk : K ≤ K') : NBox w W g b K' N a m c L := ⟨h.cur.le hk, h.gro, h.box, h.own, h.lo, h.gb⟩
/-- The pipes grown, and the header stored. -/
theorem NBox.put {w W W' : World} {g b K : Nat} {N : Int} {a a' : Option Addr} {m m' c c' : Nat} {L L' : List Pip} (h : NBox w W g b K N a m c L) (hg : W.grownBy W' (Value.ownBlock (.slice a m c))) (ho : OwnQ W' (b + 1) (.slice a' m' c') L') : NBox w (W'.setCell ⟨b, 1, none⟩ (.slice a' m' c')) g b K N a' m' c' L' := by
  have hrow : ∀ k, Value.ownBlock (.slice a m c) = some k → b < k := fun k hk => by have := (OwnS.lt h.own k hk).1; omega
  have hbox : W'.heap[b]? = some (.cells #[.int .i64 N, .slice a m c] 31 (0, 0)) := (hg.block b h.lt (fun e => by have := hrow b e.symm; omega)).trans h.box
  have h1 := heap_setCell_same W' b 1 _ _ (.slice a' m' c') hbox
  simp only [List.setIfInBounds_toArray, List.set_cons_zero, List.set_cons_succ] at h1
  exact ⟨(h.cur.kept hg (fun k hk => by have := hrow k hk; have := h.lo; have := h.gb; omega)).set (by have := h.lo; have := h.gb; omega), grown_set (grown_step h.gro hg (fun k hk => .inl (by have := hrow k hk; have := h.lo; omega))) h.lo, h1, OwnS.far ho (by show b < b + 1; omega), h.lo, h.gb⟩

end Go.Proofs.Ytikjighlnpdgiaa

/-
  Steps of a drawn region, operation by operation.
-/
set_option linter.unusedVariables false
set_option linter.unusedSimpArgs false
namespace Go.Proofs.Ytikjighlnpdgiaa
open Go.RowKit

theorem drop_get {α : Type} {l : Array α} {i : Nat} {x : α} {r : List α} (h : l.toList.drop i = x :: r) : l[i]? = some x := by
  have e : (l.toList.drop i)[0]? = some x := by rw [h]; rfl
  rw [List.getElem?_drop] at e
  simpa using e
theorem wpAnyH_take' {P : Program} {md : Region.Mode} {ops : Array Oper} {Q : Exit → Act → World → Prop} {S : World → Prop} {i : Nat} {oi : Oper} {rest : List Oper} {v : Value} {fuel : Nat} {listed : Array Bool} {a : Act} {w : World} (hi : ops.toList.drop i = oi :: rest)
    (hs : Region.noSelect ops = true) (hf : Region.free md ops listed i = true) (hr : (Region.ready md ops listed).contains i = true)
    (hQ : ∀ c a w, Q (.panic c) (a.put oi.dst v) w → Q (.panic c) a w) (hy : YieldsIf P ops S oi v a) (hS : S w)
    (h : wpAnyH P md ops Q S fuel (listed.setIfInBounds i true) (a.put oi.dst v) w) : wpAnyH P md ops Q S (fuel + 1) listed a w :=
  wpAnyH_take (drop_get hi) hs hf hr hQ hy hS h
theorem allReadyH_cons' {P : Program} {md : Region.Mode} {ops : Array Oper} {Q : Exit → Act → World → Prop} {S : World → Prop} {fuel : Nat} {listed : Array Bool} {a : Act} {w : World} {i : Nat} {o : Oper} {rest : List Oper} {rs : List Nat} (ho : ops.toList.drop i = o :: rest)
    (h : ∀ K' : Act → World → Prop, Shut (∀ a w, S w → (S w → wpAnyH P md ops Q S fuel (listed.setIfInBounds i true) a w) → K' a w) → if Region.wanted o (yielded ops a.tmps) = true then Oper.wp P o a w K' Q else K' (a.put o.dst undef) w)
    (hs : AllReadyH P md ops Q S fuel listed a w rs) : AllReadyH P md ops Q S fuel listed a w (i :: rs) := AllReadyH.cons (drop_get ho) h hs

end Go.Proofs.Ytikjighlnpdgiaa

/-
  A region in any order whose last operation stores what the others have read: the condition on the world need not hold behind that one.
-/
set_option linter.unusedVariables false
set_option linter.unusedSimpArgs false
namespace Go.Proofs.Ytikjighlnpdgiaa
open Go.RowKit

section
variable {P : Program} {md : Region.Mode} {ops : Array Oper} {Q : Exit → Act → World → Prop} {S : World → Prop} {z : Nat}

/-- Any order from here on; S is asked behind each operation but z. -/
def AnyTo (P : Program) (md : Region.Mode) (ops : Array Oper) (Q : Exit → Act → World → Prop) (S : World → Prop) (z : Nat) : Nat → Array Bool → Act → World → Prop
  | 0, done, a, w => Region.ready md ops done = [] ∧ Q .normal a w
  | n + 1, done, a, w => (Region.ready md ops done = [] → Q .normal a w) ∧
      ∀ i ∈ Region.ready md ops done, wpOp P ops Q i (fun b v => (i ≠ z → S v) ∧ AnyTo P md ops Q S z n (done.setIfInBounds i true) b v) a w
theorem AnyTo.any : ∀ (n : Nat) (done : Array Bool) (a : Act) (w : World), AnyTo P md ops Q S z n done a w → wpAny P md ops Q n done a w
  | 0, _, _, _, h => h
  | n + 1, _, _, _, h => ⟨h.1, fun i hi => wpOp_mono (fun b v hv => AnyTo.any n _ b v hv.2) (h.2 i hi)⟩
/-- Operation z waits for operation i. -/
def waitsFor (md : Region.Mode) (ops : Array Oper) (z i : Nat) : Bool :=
  match ops[z]? with
  | some o => o.after.any fun e => Region.binds md e && e.on == i
  | none => false
theorem not_ready {i : Nat} {done : Array Bool} (hw : waitsFor md ops z i = true) (hi : done.getD i true = false) : z ∉ Region.ready md ops done := by
  intro hz
  obtain ⟨-, o, ho, hall⟩ := mem_ready.1 hz
  unfold waitsFor at hw
  rw [ho] at hw
  simp only [Array.any_eq_true] at hw
  obtain ⟨k, hk, hb⟩ := hw
  rw [Bool.and_eq_true, beq_iff_eq] at hb
  have h1 := hall _ (Array.getElem_mem hk) hb.1
  rw [hb.2] at h1
  by_cases hlt : i < done.size
  · simp [hlt] at hi h1
    rw [hi] at h1
    cases h1
  · simp [Array.getElem?_eq_none (by omega : done.size ≤ i)] at h1
theorem AnyTo.first {i : Nat} {oi : Oper} {v : Value} (hi : ops[i]? = some oi) (hs : Region.noSelect ops = true) (hw : waitsFor md ops z i = true)
    (hQ : ∀ c a w, Q (.panic c) (a.put oi.dst v) w → Q (.panic c) a w) : ∀ (n : Nat) (done : Array Bool) (a : Act) (w : World),
      (∀ j oj, ops[j]? = some oj → j ≠ i → done.getD j true = false → (∀ e ∈ oj.after, Region.binds md e = true → e.on ≠ i) → oi.apart ops oj = true) →
      i ∈ Region.ready md ops done → YieldsIf P ops S oi v a → S w →
      AnyTo P md ops Q S z n (done.setIfInBounds i true) (a.put oi.dst v) w → AnyTo P md ops Q S z (n + 1) done a w
  | 0, done, a, w, _, hr, hy, hS, H => by
    refine ⟨fun h => (by rw [h] at hr; cases hr), fun j hj => ?_⟩
    by_cases e : j = i
    · subst e; exact hy.wpOp hi hS ⟨fun _ => hS, H⟩
    · have h1 := ready_mono hj e
      rw [H.1] at h1
      cases h1
  | n + 1, done, a, w, hfree, hr, hy, hS, H => by
    refine ⟨fun h => (by rw [h] at hr; cases hr), fun j hj => ?_⟩
    by_cases e : j = i
    · subst e; exact hy.wpOp hi hS ⟨fun _ => hS, H⟩
    · have hun := (mem_ready.1 hr).1
      have hjz : j ≠ z := fun e2 => by subst e2; exact not_ready hw hun hj
      have h1 := H.2 j (ready_mono hj e)
      obtain ⟨hju, oj, hoj, hall⟩ := mem_ready.1 hj
      have hno : ∀ e ∈ oj.after, Region.binds md e = true → e.on ≠ i := fun e he hb e2 => by
        have h2 := hall e he hb
        rw [e2] at h2
        by_cases hlt : i < done.size
        · simp [hlt] at hun h2
          rw [hun] at h2
          cases h2
        · simp [Array.getElem?_eq_none (by omega : done.size ≤ i)] at h2
      have h2 := wpOp_putIf hoj (hfree j oj hoj e hju hno) (fun cs b => Region.noSelect_spec hs i oi cs b hi) (fun cs b => Region.noSelect_spec hs j oj cs b hoj) hQ hy h1
      refine wpOp_mono (fun b u h3 => ⟨h3.2.1, AnyTo.first hi hs hw hQ n (done.setIfInBounds j true) b u (fun k ok hk hki hku hkn => hfree k ok hk hki (by
        by_cases ejk : j = k
        · subst ejk; exact hju
        · rw [getD_set_ne true ejk] at hku; exact hku) hkn) (ready_mono hr (Ne.symm e)) h3.1 (h3.2.1 hjz) (by rw [Array.setIfInBounds_comm _ _ e]; exact h3.2.2)⟩) h2
/-- What yields its value in every world that meets S is taken first. -/
theorem AnyTo.take {i : Nat} {oi : Oper} {rest : List Oper} {v : Value} {n : Nat} {done : Array Bool} {a : Act} {w : World} (hi : ops.toList.drop i = oi :: rest)
    (hs : Region.noSelect ops = true) (hf : Region.free md ops done i = true) (hr : (Region.ready md ops done).contains i = true) (hw : waitsFor md ops z i = true)
    (hQ : ∀ c a w, Q (.panic c) (a.put oi.dst v) w → Q (.panic c) a w) (hy : YieldsIf P ops S oi v a) (hS : S w)
    (h : AnyTo P md ops Q S z n (done.setIfInBounds i true) (a.put oi.dst v) w) : AnyTo P md ops Q S z (n + 1) done a w :=
  AnyTo.first (drop_get hi) hs hw hQ n done a w (Region.free_spec (drop_get hi) hf) (by simpa using hr) hy hS h
/-- One operation alone may come up. -/
theorem AnyTo.one {i : Nat} {o : Oper} {rest : List Oper} {n : Nat} {done : Array Bool} {a : Act} {w : World} (ho : ops.toList.drop i = o :: rest) (hr : Region.ready md ops done = [i])
    (h : ∀ K : Act → World → Prop, Shut (∀ b v, S v → (S v → AnyTo P md ops Q S z n (done.setIfInBounds i true) b v) → K b v) → if Region.wanted o (yielded ops a.tmps) = true then Oper.wp P o a w K Q else K (a.put o.dst undef) w) : AnyTo P md ops Q S z (n + 1) done a w := by
  refine ⟨fun h0 => (by rw [hr] at h0; cases h0), fun j hj => ?_⟩
  rw [hr] at hj
  obtain rfl := List.mem_singleton.1 hj
  exact wpOp_step (drop_get ho) (fun K hK => h K (fun b v hS hv => hK b v ⟨fun _ => hS, hv hS⟩))
/-- The last operation. -/
theorem AnyTo.last {o : Oper} {rest : List Oper} {n : Nat} {done : Array Bool} {a : Act} {w : World} (ho : ops.toList.drop z = o :: rest) (hr : Region.ready md ops done = [z])
    (hd : Region.ready md ops (done.setIfInBounds z true) = [])
    (h : ∀ K : Act → World → Prop, Shut (∀ b v, Q .normal b v → K b v) → if Region.wanted o (yielded ops a.tmps) = true then Oper.wp P o a w K Q else K (a.put o.dst undef) w) : AnyTo P md ops Q S z (n + 1) done a w := by
  refine ⟨fun h0 => (by rw [hr] at h0; cases h0), fun j hj => ?_⟩
  rw [hr] at hj
  obtain rfl := List.mem_singleton.1 hj
  refine wpOp_step (drop_get ho) (fun K hK => h K (fun b v hv => hK b v ⟨fun h => absurd rfl h, ?_⟩))
  cases n with
  | zero => exact ⟨hd, hv⟩
  | succ n => exact ⟨fun _ => hv, by rw [hd]; intro i hi; cases hi⟩
theorem wp_region_to {id : Nat} {a : Act} {w : World} (S : World → Prop) (z : Nat) (hm : P.follows .mixedOrders = true) (hS : S w.drew)
    (h : S w.drew → AnyTo P .any ops Q S z ops.size (Array.replicate ops.size false) a w.drew) : (Code.region id ops true).wp P Q a w :=
  wp_region_any hm (AnyTo.any _ _ _ _ (h hS))
end

end Go.Proofs.Ytikjighlnpdgiaa

/-
  Networks: the parts of a network, and rings and trees, in the program.
-/
set_option linter.unusedVariables false
set_option linter.unusedSimpArgs false
namespace Go.Proofs.Ytikjighlnpdgiaa
open Go.RowKit

theorem Try.infoRow : (Try.prog.info? 25).map (fun i => (i.zero, i.size, i.bytes)) = some (some (.slice none 0 0), 1, 24) := by kernel_rfl

theorem cnt_yes {N : Int} {l : List Pip} {k : Nat} (h : (reachL N l 0 ((k : Int) + 1))[0]?.getD 0 = (k : Int) + 1) : cnt N l (k + 1) = cnt N l k + 1 := by
  conv => lhs; unfold cnt
  rw [if_pos h]
theorem cnt_no {N : Int} {l : List Pip} {k : Nat} (h : (reachL N l 0 ((k : Int) + 1))[0]?.getD 0 ≠ (k : Int) + 1) : cnt N l (k + 1) = cnt N l k := by
  conv => lhs; unfold cnt
  rw [if_neg h]

set_option maxRecDepth 100000 in
set_option maxHeartbeats 2000000 in
theorem i_networkParts (M : Nat) (a : Option Addr) (n c : Nat) (l : List Pip) (w : World) (h : QAt w a n l) (hg : goodNet M l = true) :
    Calls Try.prog 97 #[.agg #[.int .i64 M, .slice a n c]] w fun e w' => ∃ a' c', e = .returned (.slice a' (cnt M l M) c') ∧ Below w.heap.size w w' := by
  have hM : M ≤ 8 := by have := (goodNet_get hg).1; omega
  obtain ⟨i0, hi, hz0, hz1, hz2⟩ := info_parts Try.infoRow
  have HI := hid hi
  have HZ := hid hz0
  have HZ1 := hid hz1
  have HZ2 := hid hz2
  have H := hid h
  have HG := hid hg
  clear h hg hi hz0 hz1 hz2
  go_enter Try.func97, Try.ntmps97
  go_wp2
  go_loopg [3, 4] (M + 1) (fun g o i wr => ∃ (k : Nat) (a' : Option Addr) (c' : Nat), k ≤ M ∧ g = M + 1 - k ∧ i = .int .i64 ((k : Int) + 1) ∧ o = .slice a' (cnt M l k) c' ∧ Hid (∃ xs, wr.ownsRow (w.heap.size + 1) 25 1 (.slice a' (cnt M l k) c') (cnt M l k) xs) ∧ Hid (Below w.heap.size w wr ∧ wr.cell? ⟨w.heap.size, 0, none⟩ = some (.int .i64 M) ∧ wr.cell? ⟨w.heap.size, 1, none⟩ = some (.slice a n c)))
  case atStart =>
    refine ⟨0, some ⟨w.heap.size + 1, 0, none⟩, 0, Nat.zero_le _, by omega, rfl, rfl, hid ⟨[], ?_⟩, hid ⟨by go_grown, ?_, ?_⟩⟩
    · have := World.ownsRow_lit (base := w.heap.size + 1) (e := 25) (size := 1) (w.alloc (.cells #[.int .i64 M, .slice a n c] 31)) #[] 0 (by simp) (by decide) rfl
      rw [show cnt (M : Int) l 0 = 0 from rfl]
      simpa using this
    · rw [cell_of_row _ _ _ _ _ (0, 0) (mid_new w _ _ _ rfl)]; rfl
    · rw [cell_of_row _ _ _ _ _ (0, 0) (mid_new w _ _ _ rfl)]; rfl
  case round =>
    obtain ⟨k, a', c', hk, rfl, rfl, rfl, ho, hh⟩ := hrel
    obtain ⟨hb, n0, n1⟩ := hh.out
    have hz0 : w.heap.size < wr.heap.size := World.block_lt_of_cell? wr _ n0
    have hcl := cnt_le M l k
    have HB := hid hb
    clear hb
    by_cases hlt : k < M
    · have hkm : (k : Int) + 1 ≤ (M : Int) := by omega
      go_wp2_with fail
      refine (i_reachedFrom M ((k : Int) + 1) _ _ _ l _ (H.out.below HB.out) HG.out ⟨by omega, by omega⟩).mono ?_
      rintro e w1 ⟨a1, c1, rfl, ho1, hb1⟩
      have E := hid (show nonneg (distL M l 0 ((k : Int) + 1)) (M + 1) = reachL M l 0 ((k : Int) + 1) from rfl)
      rw [E.out] at ho1 ⊢
      have hp := reachL_pos (l := l) (s := (k : Int) + 1) HG.out ⟨by omega, by omega⟩
      have hl9 := reachL_len (N := (M : Int)) (l := l) (wo := 0) (s := (k : Int) + 1)
      obtain ⟨g1, rfl, hg1, hg2⟩ := own_some ho1 hp
      have hcell := ho1.cell (k := 0) hp
      have HO1 := hid ho1
      have S1 := hid (show Below w.heap.size w w1 ∧ w1.cell? ⟨w.heap.size, 0, none⟩ = some (.int .i64 M) ∧ w1.cell? ⟨w.heap.size, 1, none⟩ = some (.slice a n c) from ⟨bstep HB.out hb1, by rw [hb1.cell (p := ⟨w.heap.size, 0, none⟩) hz0]; exact n0, by rw [hb1.cell (p := ⟨w.heap.size, 1, none⟩) hz0]; exact n1⟩)
      have O1 : Hid (∃ xs, w1.ownsRow (w.heap.size + 1) 25 1 (.slice a' (cnt M l k) c') (cnt M l k) xs) := hid (let ⟨xs, hx⟩ := ho.out; ⟨xs, World.ownsRow.kept hx (grown_of_below hb1 none) (by cases hq : Value.ownBlock (.slice a' (cnt M l k) c') <;> simp)⟩)
      clear ho1 ho hb1 n0 n1
      obtain ⟨R, hR⟩ : ∃ R, reachL M l 0 ((k : Int) + 1) = R := ⟨_, rfl⟩
      have HR := hid hR
      rw [hR] at hcell hp hl9 ⊢
      clear hR
      obtain ⟨x0, hx0⟩ : ∃ x0, R[0]?.getD 0 = x0 := ⟨_, rfl⟩
      obtain ⟨r0, hr0⟩ : ∃ r0, R.length = r0 := ⟨_, rfl⟩
      rw [hx0] at hcell
      rw [hr0] at hp hl9 ⊢
      have HX0 := hid hx0
      clear hx0 hr0
      by_cases he : x0 = (k : Int) + 1
      · have EC := hid (cnt_yes (N := (M : Int)) (l := l) (k := k) (by rw [HR.out, HX0.out]; exact he))
        have he1 : x0 ≤ (k : Int) + 1 := by omega
        have he2 : (k : Int) + 1 ≤ x0 := by omega
        clear he
        go_wp2_with (at_builtin; refine wp_append_cells _ rfl _ _ _ rfl (w.heap.size + 1) 25 i0 (.slice none 0 0) 1 24 Try.underlying94 HI.out HZ.out HZ1.out HZ2.out rfl (by decide) (.slice a' (cnt M l k) c') (cnt M l k) (Classical.choose O1.out) rfl ((Classical.choose_spec O1.out).alloc _) (some ⟨w1.heap.size, 0, none⟩) 1 1 [.slice (some ⟨g1, 0, none⟩) r0 c1] rfl ⟨rfl, by simp, fun ad had j u hu => by cases had; exact World.news_of_block (cs := #[.slice (some ⟨g1, 0, none⟩) r0 c1]) (t := 25) (fr := (0, 0)) (heap_alloc_new w1 _) j u hu, by simp [Value.oneCell']⟩ (by unfold maxLen; omega) (by omega) (by have := S1.out.1.size; simp; omega) ?_)
        intro v9 w9 hown hgrow hblk
        obtain ⟨g9, c9, rfl, hg9, hg9w⟩ := hown.form (by omega)
        have S9 := hid (show Below w.heap.size w w9 ∧ w9.cell? ⟨w.heap.size, 0, none⟩ = some (.int .i64 M) ∧ w9.cell? ⟨w.heap.size, 1, none⟩ = some (.slice a n c) from by
          have hz1 : w.heap.size < w1.heap.size := World.block_lt_of_cell? w1 _ S1.out.2.1
          have hne : ∀ q, Value.ownBlock (.slice a' (cnt M l k) c') = some q → w.heap.size + 1 ≤ q := fun q hq => (World.ownsRow.lt (Classical.choose_spec O1.out) q hq).1
          have hne0 : some w.heap.size ≠ Value.ownBlock (.slice a' (cnt M l k) c') := fun e => by have := hne _ e.symm; omega
          have hk0 := bcell ((Below.refl w1.heap.size w1).alloc (Nat.le_refl _) (.cells #[.slice (some ⟨g1, 0, none⟩) r0 c1] 25))
          refine ⟨(S1.out.1.alloc S1.out.1.size _).grown hgrow (by simp; omega) (fun q hq => by have := hne q hq; omega), ?_, ?_⟩
          · rw [hgrow.cell_far _ (by simp; omega) hne0, hk0.1 _ _ hz1]; exact S1.out.2.1
          · rw [hgrow.cell_far _ (by simp; omega) hne0, hk0.1 _ _ hz1]; exact S1.out.2.2)
        have O9 : Hid (∃ xs, w9.ownsRow (w.heap.size + 1) 25 1 (.slice (some ⟨g9, 0, none⟩) (cnt M l (k + 1)) c9) (cnt M l (k + 1)) xs) := hid (by rw [EC.out]; exact ⟨_, hown⟩)
        clear hown hgrow hblk
        go_wp2
        go_roundg (M + 1 - (k + 1))
        case rel => exact ⟨k + 1, some ⟨g9, 0, none⟩, c9, by omega, rfl, by go_num, by rw [EC.out], O9, S9⟩
        case measure => omega
      · have EC := hid (cnt_no (N := (M : Int)) (l := l) (k := k) (by rw [HR.out, HX0.out]; exact he))
        go_wp2
        go_roundg (M + 1 - (k + 1))
        case rel => exact ⟨k + 1, a', c', by omega, rfl, by go_num, by rw [EC.out], by rw [EC.out]; exact O1, S1⟩
        case measure => omega
    · obtain rfl : k = M := by omega
      go_wp2
      go_ret
      exact ⟨_, _, rfl, HB.out⟩

end Go.Proofs.Ytikjighlnpdgiaa

/-
  The reference's own way to put a number into an ascending list.
-/
set_option linter.unusedVariables false
set_option linter.unusedSimpArgs false
namespace Go.Proofs.Ytikjighlnpdgiaa
open Go.RowKit

theorem step_append_ints {ops : Array Oper} {o : Oper} {a : Act} {K : Act → World → Prop} {Q : Exit → Act → World → Prop} {E : Prop} {w : World} (hgd : o.guard = none) (s x : Operand)
    (ho : o.op = .call { callee := .builtin .append, args := #[s, x], argTypes := #[25, 25] })
    (B : Nat) (v : Value) (l : List Int) (hs : a.eval s = v) (hown : OwnI w B v l)
    (ax : Option Addr) (m c : Nat) (l2 : List Int) (hx : a.eval x = .slice ax m c) (hat : IntsAt w ax m l2)
    (N : Nat) (hN : l.length + m = N) (hb : N ≤ 1099511627776) (hB : B ≤ w.heap.size)
    (h : ∀ a' c' w', OwnI w' B (.slice a' N c') (l ++ l2) → w.grownBy w' v.ownBlock → (Value.ownBlock (.slice a' N c') = v.ownBlock ∨ Value.ownBlock (.slice a' N c') = some w.heap.size) → K (a.put o.dst (.slice a' N c')) w') :
    if Region.wanted o (yielded ops a.tmps) = true then Oper.wp Try.prog o a w K Q else E := by
  have hw : Region.wanted o (yielded ops a.tmps) = true := by simp [Region.wanted, hgd]
  rw [if_pos hw]
  obtain ⟨i0, hi, hz0, hz1, hz2⟩ := info_parts Try.infoInt
  obtain ⟨h1, h2, h3, h4⟩ := hat.cells
  cases ax with
  | some ad =>
    obtain ⟨v', w', hrun, k1, k2, _⟩ := run_append_own (P := Try.prog) w B 25 o.type 3 i0 (.int .i64 0) 1 8 Try.underlying25 hi hz0 hz1 hz2 rfl (by decide) v l.length _ hown ad m c _ h1 (h3 ad rfl) h4 (by unfold maxLen; omega) (by omega) hB
    have k3 := append_block w B 25 o.type 3 i0 (.int .i64 0) 1 8 Try.underlying25 hi hz0 hz1 hz2 v l.length _ hown ad m c _ h1 (h3 ad rfl) h4 (by unfold maxLen; omega) (by omega) hrun
    have ho2 : OwnI w' B v' (l ++ l2) := OwnI.of_row (n := l.length + m) (by rw [List.map_append]; exact k1)
    obtain ⟨a', c', rfl⟩ := ho2.form
    have e : (l ++ l2).length = N := by rw [List.length_append, hat.1]; exact hN
    rw [e] at ho2 hrun k3
    unfold Oper.wp
    simp [execOp, ho, resolve, invoke, builtin, hs, hx, hrun, Result.andThen]
    exact h a' c' w' ho2 k2 k3
  | none =>
    obtain rfl := h2 rfl
    have hl2 : l2 = [] := List.eq_nil_of_length_eq_zero hat.1
    subst hl2
    have hrun := run_append_none (P := Try.prog) w B 25 o.type 3 i0 1 c Try.underlying25 hi v l.length _ hown
    obtain ⟨a', c', rfl⟩ := hown.form
    obtain rfl : l.length = N := by simpa using hN
    unfold Oper.wp
    simp [execOp, ho, resolve, invoke, builtin, hs, hx, hrun, Result.andThen]
    exact h a' c' w (by simpa using hown) (World.grownBy.refl _ _) (Or.inl rfl)

theorem IntsAt.take {w : World} {a : Option Addr} {n k : Nat} {l : List Int} (h : IntsAt w a n l) (hk : k ≤ n) : IntsAt w a k (l.take k) :=
  ⟨by have := h.1; simp; omega, fun j hj => by
    obtain ⟨b, off, h1, h2, h3⟩ := h.2 j (by omega)
    refine ⟨b, off, h1, h2, ?_⟩
    rw [h3, List.getElem?_take, if_pos hj]⟩
theorem IntsAt.drop {w : World} {g off n k : Nat} {l : List Int} (h : IntsAt w (some ⟨g, off, none⟩) n l) (hk : k ≤ n) : IntsAt w (some ⟨g, off + k, none⟩) (n - k) (l.drop k) :=
  ⟨by have := h.1; simp; omega, fun j hj => by
    obtain ⟨b, o, h1, h2, h3⟩ := h.2 (k + j) (by omega)
    cases h1
    refine ⟨g, off + k, rfl, h2, ?_⟩
    rw [Nat.add_assoc, h3, List.getElem?_drop]⟩
theorem IntsAt.nil' (w : World) (a : Option Addr) {l : List Int} (h : l.length = 0) : IntsAt w a 0 l := ⟨h, fun k hk => absurd hk (by omega)⟩
theorem IntsAt.drew {w : World} {a : Option Addr} {n : Nat} {l : List Int} (h : IntsAt w a n l) : IntsAt w.drew a n l := h.below ((Below.refl _ _).drew)
theorem OwnI.drew {w : World} {B : Nat} {v : Value} {l : List Int} (h : OwnI w B v l) : OwnI w.drew B v l := World.ownsRow.drew h
theorem IntsAt.single' {w : World} {b : Nat} (h : w.heap.size = b) (x : Int) : IntsAt (w.alloc (.cells #[.int .i64 x] 3)) (some ⟨b, 0, none⟩) 1 [x] := by
  subst h
  exact IntsAt.single w x
theorem OwnI.lit0' {w : World} {b : Nat} (h : w.heap.size = b) : OwnI (w.alloc (.cells #[] 3)) b (.slice (some ⟨b, 0, none⟩) 0 0) [] := by
  subst h
  exact OwnI.lit0 w
theorem IntsAt.alloc {w : World} {a : Option Addr} {n : Nat} {l : List Int} (h : IntsAt w a n l) (o : Obj) : IntsAt (w.alloc o) a n l := h.below ((Below.refl _ _).alloc (Nat.le_refl _) _)

set_option maxHeartbeats 1000000 in
theorem s_l1Put_in (g n c : Nat) (x : Int) (l : List Int) (w : World) (h : IntsAt w (some ⟨g, 0, none⟩) n l) (hn : n ≤ 1000) (ha : Asc l) (hx : x ∈ l) :
    Calls Try.prog 101 #[.slice (some ⟨g, 0, none⟩) n c, .int .i64 x] w fun e w' => e = .returned (.slice (some ⟨g, 0, none⟩) n c) ∧ w = w' := by
  have H := hid h
  have HL := hid h.1
  have HA := hid ha
  have HX := hid hx
  clear h ha hx
  go_enter Try.func101, Try.ntmps101
  go_wp2
  go_loopg [5] n (fun g' i wr => ∃ k : Nat, k ≤ n ∧ g' = n - k ∧ i = .int .i64 k ∧ w = wr ∧ Hid (∀ j, j < k → l[j]?.getD 0 < x))
  case atStart => exact ⟨0, Nat.zero_le _, rfl, rfl, rfl, hid (fun j hj => absurd hj (by omega))⟩
  case round =>
    obtain ⟨k, hk, rfl, rfl, rfl, hh⟩ := hrel
    by_cases hlt : k < n
    · obtain ⟨b, off, e0, hbw, hcell⟩ := H.out.2 k hlt
      cases e0
      rw [Nat.zero_add] at hcell
      by_cases he : l[k]?.getD 0 < x
      · go_wp2
        go_roundg (n - (k + 1))
        case rel =>
          refine ⟨k + 1, by omega, rfl, by go_num, rfl, hid (fun j hj => ?_)⟩
          by_cases e : j = k
          · subst e; exact he
          · exact hh.out j (by omega)
        case measure => omega
      · have hq := (asc_at HA.out HX.out (by have := HL.out; omega) hh.out (fun _ => he)).2
        have h1 : l[k]?.getD 0 ≤ x := by omega
        have h2 : x ≤ l[k]?.getD 0 := by omega
        clear hq
        go_wp2
        go_ret
        exact ⟨rfl, rfl⟩
    · have hq := (asc_at HA.out HX.out (by have := HL.out; omega) hh.out (fun h => absurd h (by have := HL.out; omega))).1
      have := HL.out
      omega

set_option maxRecDepth 100000 in
set_option maxHeartbeats 4000000 in
theorem s_l1Put_new (g n c : Nat) (x : Int) (l : List Int) (w : World) (h : IntsAt w (some ⟨g, 0, none⟩) n l) (hn : n ≤ 1000) (hc : n ≤ c) (h0 : 0 < n) (hx : x ∉ l) :
    Calls Try.prog 101 #[.slice (some ⟨g, 0, none⟩) n c, .int .i64 x] w fun e w' => ∃ a' c', e = .returned (.slice a' (n + 1) c') ∧ OwnI w' w.heap.size (.slice a' (n + 1) c') (ins x l) ∧ Below w.heap.size w w' := by
  have H := hid h
  have HL := hid h.1
  have HX := hid hx
  clear h hx
  go_enter Try.func101, Try.ntmps101
  go_wp2
  go_loopg [5] n (fun g' i wr => ∃ k : Nat, k ≤ n ∧ g' = n - k ∧ i = .int .i64 k ∧ w = wr ∧ Hid (∀ j, j < k → l[j]?.getD 0 < x))
  case atStart => exact ⟨0, Nat.zero_le _, rfl, rfl, rfl, hid (fun j hj => absurd hj (by omega))⟩
  case round =>
    obtain ⟨k, hk, rfl, rfl, rfl, hh⟩ := hrel
    by_cases hlt : k < n
    · obtain ⟨b, off, e0, hbw, hcell⟩ := H.out.2 k hlt
      cases e0
      rw [Nat.zero_add] at hcell
      by_cases he : l[k]?.getD 0 < x
      · go_wp2
        go_roundg (n - (k + 1))
        case rel =>
          refine ⟨k + 1, by omega, rfl, by go_num, rfl, hid (fun j hj => ?_)⟩
          by_cases e : j = k
          · subst e; exact he
          · exact hh.out j (by omega)
        case measure => omega
      · have HQ := hid (show k < l.length → ¬ l[k]?.getD 0 < x from fun _ => he)
        have HD := hid (show ∀ wx, Below w.heap.size w wx → IntsAt wx (some ⟨g, k, none⟩) (n - k) (l.drop k) from fun wx hb => by have := ((H.out.below hb).drop hk); simpa using this)
        have h1 : x < l[k]?.getD 0 := by
          have : l[k]?.getD 0 ≠ x := fun e => HX.out (e ▸ getD_mem' (k := k) (by have := HL.out; omega))
          omega
        have k0 : (0 : Int) ≤ (k : Int) := by omega
        have k1 : (k : Int) ≤ (n : Int) := by omega
        have k2 : (k : Int) ≤ (c : Int) := by omega
        have k3 : ¬ c = k := by omega
        have k4 : ¬ c = 0 := by omega
        clear he
        go_upto_region 6 with fail
        go_region_law (first | (refine step_append_ints (by rfl) _ _ (by rfl) (w.heap.size) _ [] (by rfl) (by first | exact ((OwnI.lit0 _).mono (by simp)).drew | exact (((OwnI.lit0 _).mono (by simp)).alloc _).drew | exact ((OwnI.lit0' (by simp)).mono (by simp)).drew) _ k _ (l.take k) (by rfl) (by exact IntsAt.take (H.out.below (by go_grown)) hk) k (by simp) (by omega) (by simp <;> omega) ?_; intro a4 c4 w4 h4 g4 b4; have hb4 : Below w.heap.size w w4 := Below.grown (by go_grown) g4 (by simp <;> omega) (fun q hq => by cases hq; first | exact Nat.le_refl _ | exact Nat.le_succ _)) | (refine step_append_ints (by rfl) _ _ (by rfl) (w.heap.size) _ ([] ++ l.take k) (by rfl) (by first | exact h4 | exact h4.alloc _) _ 1 _ [x] (by rfl) (by first | exact IntsAt.single _ _ | exact ((IntsAt.single' (by simp) _).drew).kept g4 (fun b off e => by cases e; exact fun h => absurd (Option.some.inj h) (by simp <;> omega)) | exact (((IntsAt.single _ _).alloc _).drew).kept g4 (fun b off e => by cases e; exact fun h => absurd (Option.some.inj h) (by simp <;> omega))) (k + 1) (by have := HL.out; simp; omega) (by omega) (by have := hb4.size; simp; omega) ?_; intro a7 c7 w7 h7 g7 b7; have hb7 : Below w.heap.size w w7 := by first | exact hb4.grown g7 hb4.size (fun q hq => (h4.lt q hq).1) | exact (hb4.alloc hb4.size _).grown g7 (by have := hb4.size; simp; omega) (fun q hq => (h4.lt q hq).1)) | (refine step_append_ints (by rfl) _ _ (by rfl) (w.heap.size) _ (([] ++ l.take k) ++ [x]) (by rfl) h7 _ (n - k) _ (l.drop k) (by rfl) (HD.out w7 hb7) (n + 1) (by have := HL.out; simp; omega) (by omega) (by exact hb7.size) ?_; intro a11 c11 w11 h11 g11 b11; have hb11 : Below w.heap.size w w11 := hb7.grown g11 hb7.size (fun q hq => (h7.lt q hq).1)))
        all_goals
          go_wp2
          go_ret
          refine ⟨_, _, rfl, ?_, hb11⟩
          rw [ins_cut l k (by have := HL.out; omega) hh.out (fun h => by have := HQ.out h; omega)]
          simpa using h11
    · obtain rfl : k = n := by omega
      have HQ := hid (show k < l.length → ¬ l[k]?.getD 0 < x from fun h => absurd h (by have := HL.out; omega))
      have k0 : (0 : Int) ≤ (k : Int) := by omega
      have k2 : (k : Int) ≤ (c : Int) := by omega
      have k4 : ¬ c = 0 := by omega
      have kz : k - k = 0 := by omega
      by_cases k3 : c = k
      · subst k3
        have HD := hid (show ∀ wx, Below w.heap.size w wx → IntsAt wx (some ⟨g, 0, none⟩) 0 (l.drop c) from fun wx hb => by exact IntsAt.nil' _ _ (by have := HL.out; simp; omega))
        go_upto_region 6 with fail
        go_region_law (first | (refine step_append_ints (by rfl) _ _ (by rfl) (w.heap.size) _ [] (by rfl) (by first | exact ((OwnI.lit0 _).mono (by simp)).drew | exact (((OwnI.lit0 _).mono (by simp)).alloc _).drew | exact ((OwnI.lit0' (by simp)).mono (by simp)).drew) _ c _ (l.take c) (by rfl) (by exact IntsAt.take (H.out.below (by go_grown)) hk) c (by simp) (by omega) (by simp <;> omega) ?_; intro a4 c4 w4 h4 g4 b4; have hb4 : Below w.heap.size w w4 := Below.grown (by go_grown) g4 (by simp <;> omega) (fun q hq => by cases hq; first | exact Nat.le_refl _ | exact Nat.le_succ _)) | (refine step_append_ints (by rfl) _ _ (by rfl) (w.heap.size) _ ([] ++ l.take c) (by rfl) (by first | exact h4 | exact h4.alloc _) _ 1 _ [x] (by rfl) (by first | exact IntsAt.single _ _ | exact ((IntsAt.single' (by simp) _).drew).kept g4 (fun b off e => by cases e; exact fun h => absurd (Option.some.inj h) (by simp <;> omega)) | exact (((IntsAt.single _ _).alloc _).drew).kept g4 (fun b off e => by cases e; exact fun h => absurd (Option.some.inj h) (by simp <;> omega))) (c + 1) (by have := HL.out; simp; omega) (by omega) (by have := hb4.size; simp; omega) ?_; intro a7 c7 w7 h7 g7 b7; have hb7 : Below w.heap.size w w7 := by first | exact hb4.grown g7 hb4.size (fun q hq => (h4.lt q hq).1) | exact (hb4.alloc hb4.size _).grown g7 (by have := hb4.size; simp; omega) (fun q hq => (h4.lt q hq).1)) | (refine step_append_ints (by rfl) _ _ (by rfl) (w.heap.size) _ (([] ++ l.take c) ++ [x]) (by rfl) h7 _ (0) _ (l.drop c) (by rfl) (HD.out w7 hb7) (c + 1) (by have := HL.out; simp; omega) (by omega) (by exact hb7.size) ?_; intro a11 c11 w11 h11 g11 b11; have hb11 : Below w.heap.size w w11 := hb7.grown g11 hb7.size (fun q hq => (h7.lt q hq).1)))
        all_goals
          go_wp2
          go_ret
          refine ⟨_, _, rfl, ?_, hb11⟩
          rw [ins_cut l c (by have := HL.out; omega) hh.out (fun h => by have := HQ.out h; omega)]
          simpa using h11
      · have HD := hid (show ∀ wx, Below w.heap.size w wx → IntsAt wx (some ⟨g, k, none⟩) 0 (l.drop k) from fun wx hb => by exact IntsAt.nil' _ _ (by have := HL.out; simp; omega))
        go_upto_region 6 with fail
        go_region_law (first | (refine step_append_ints (by rfl) _ _ (by rfl) (w.heap.size) _ [] (by rfl) (by first | exact ((OwnI.lit0 _).mono (by simp)).drew | exact (((OwnI.lit0 _).mono (by simp)).alloc _).drew | exact ((OwnI.lit0' (by simp)).mono (by simp)).drew) _ k _ (l.take k) (by rfl) (by exact IntsAt.take (H.out.below (by go_grown)) hk) k (by simp) (by omega) (by simp <;> omega) ?_; intro a4 c4 w4 h4 g4 b4; have hb4 : Below w.heap.size w w4 := Below.grown (by go_grown) g4 (by simp <;> omega) (fun q hq => by cases hq; first | exact Nat.le_refl _ | exact Nat.le_succ _)) | (refine step_append_ints (by rfl) _ _ (by rfl) (w.heap.size) _ ([] ++ l.take k) (by rfl) (by first | exact h4 | exact h4.alloc _) _ 1 _ [x] (by rfl) (by first | exact IntsAt.single _ _ | exact ((IntsAt.single' (by simp) _).drew).kept g4 (fun b off e => by cases e; exact fun h => absurd (Option.some.inj h) (by simp <;> omega)) | exact (((IntsAt.single _ _).alloc _).drew).kept g4 (fun b off e => by cases e; exact fun h => absurd (Option.some.inj h) (by simp <;> omega))) (k + 1) (by have := HL.out; simp; omega) (by omega) (by have := hb4.size; simp; omega) ?_; intro a7 c7 w7 h7 g7 b7; have hb7 : Below w.heap.size w w7 := by first | exact hb4.grown g7 hb4.size (fun q hq => (h4.lt q hq).1) | exact (hb4.alloc hb4.size _).grown g7 (by have := hb4.size; simp; omega) (fun q hq => (h4.lt q hq).1)) | (refine step_append_ints (by rfl) _ _ (by rfl) (w.heap.size) _ (([] ++ l.take k) ++ [x]) (by rfl) h7 _ (0) _ (l.drop k) (by rfl) (HD.out w7 hb7) (k + 1) (by have := HL.out; simp; omega) (by omega) (by exact hb7.size) ?_; intro a11 c11 w11 h11 g11 b11; have hb11 : Below w.heap.size w w11 := hb7.grown g11 hb7.size (fun q hq => (h7.lt q hq).1)))
        all_goals
          go_wp2
          go_ret
          refine ⟨_, _, rfl, ?_, hb11⟩
          rw [ins_cut l k (by have := HL.out; omega) hh.out (fun h => by have := HQ.out h; omega)]
          simpa using h11

end Go.Proofs.Ytikjighlnpdgiaa

/-
  The reference's search for the nodes that are connected with a node.
-/
set_option linter.unusedVariables false
set_option linter.unusedSimpArgs false
namespace Go.Proofs.Ytikjighlnpdgiaa
open Go.RowKit

theorem s_l1Has_is (a : Option Addr) (n c : Nat) (x : Int) (l : List Int) (w : World) (h : IntsAt w a n l) (hn : n ≤ 1048576) (b : Bool) (hb : decide (x ∈ l) = b) :
    Calls Try.prog 75 #[.slice a n c, .int .i64 x] w fun e w' => e = .returned (.bool b) ∧ w = w' := by
  subst hb
  exact s_l1Has a n c x l w h hn
theorem own_cap {w : World} {B n c : Nat} {a : Option Addr} {l : List Int} (h : OwnI w B (.slice a n c) l) : n ≤ c := by
  unfold OwnI at h
  have hl := OwnI.len h
  rcases h.2 with ⟨h1, h0⟩ | ⟨g, cap, cur, h1, hB, hg, hnc, -⟩
  · simp only [Value.slice.injEq] at h1
    omega
  · simp only [Value.slice.injEq] at h1
    omega

structure RIn (M n c : Nat) (a : Option Addr) (w : World) (l : List Pip) (s : Int) (m0 k : Nat) (b : Bool) (gg m c' : Nat) (R : List Int) (wr : World) : Prop where
  own : OwnI wr (w.heap.size + 1) (.slice (some ⟨gg, 0, none⟩) m c') R
  wet : Wet M l s R
  clo : (b = false ∧ m = m0 ∧ ∀ j, j < k → ((pp l j).2.1 ∈ R ↔ (pp l j).2.2.1 ∈ R)) ∨ (b = true ∧ m0 < m)
  bel : Below w.heap.size w wr
  n1 : wr.cell? ⟨w.heap.size, 1, none⟩ = some (.slice a n c)
theorem RIn.same {M n c : Nat} {a : Option Addr} {w : World} {l : List Pip} {s : Int} {m0 k : Nat} {b : Bool} {gg m c' : Nat} {R : List Int} {wr wx : World} (h : RIn M n c a w l s m0 k b gg m c' R wr) (hb : Below wr.heap.size wr wx) (he : (pp l k).2.1 ∈ R ↔ (pp l k).2.2.1 ∈ R) : RIn M n c a w l s m0 (k + 1) b gg m c' R wx :=
  ⟨h.own.below hb, h.wet, h.clo.elim (fun ⟨x, y, z⟩ => .inl ⟨x, y, fun j hj => by
    by_cases e : j = k
    · subst e; exact he
    · exact z j (by omega)⟩) .inr, bstep h.bel hb, (hb.cell (p := ⟨w.heap.size, 1, none⟩) (World.block_lt_of_cell? wr _ h.n1)).trans h.n1⟩
theorem RIn.stay {M n c : Nat} {a : Option Addr} {w : World} {l : List Pip} {s : Int} {m0 k : Nat} {b : Bool} {gg m c' : Nat} {R : List Int} {wr wx : World} (h : RIn M n c a w l s m0 k b gg m c' R wr) (hb : Below wr.heap.size wr wx) : RIn M n c a w l s m0 k b gg m c' R wx :=
  ⟨h.own.below hb, h.wet, h.clo, bstep h.bel hb, (hb.cell (p := ⟨w.heap.size, 1, none⟩) (World.block_lt_of_cell? wr _ h.n1)).trans h.n1⟩
theorem RIn.more {M n c : Nat} {a : Option Addr} {w : World} {l : List Pip} {s : Int} {m0 k : Nat} {b : Bool} {gg m c' : Nat} {R R' : List Int} {wr wx : World} (h : RIn M n c a w l s m0 k b gg m c' R wr) (hb : Below wr.heap.size wr wx) {B gg' c'' : Nat} (ho : OwnI wx B (.slice (some ⟨gg', 0, none⟩) (m + 1) c'') R') (hB : w.heap.size + 1 ≤ B) (hw : Wet M l s R') : RIn M n c a w l s m0 (k + 1) true gg' (m + 1) c'' R' wx :=
  ⟨ho.mono hB, hw, .inr ⟨rfl, by rcases h.clo with ⟨-, h, -⟩ | ⟨-, h⟩ <;> omega⟩, bstep h.bel hb, (hb.cell (p := ⟨w.heap.size, 1, none⟩) (World.block_lt_of_cell? wr _ h.n1)).trans h.n1⟩

set_option maxRecDepth 100000 in
set_option maxHeartbeats 4000000 in
theorem s_l2Reached (M : Nat) (s : Int) (a : Option Addr) (n c : Nat) (l : List Pip) (w : World) (h : QAt w a n l) (hg : goodNet M l = true) (hs : 1 ≤ s ∧ s ≤ M) :
    Calls Try.prog 74 #[.agg #[.int .i64 M, .slice a n c], .int .i64 s] w fun e w' => ∃ g c', e = .returned (.slice (some ⟨g, 0, none⟩) (reachL M l 0 s).length c') ∧ OwnI w' w.heap.size (.slice (some ⟨g, 0, none⟩) (reachL M l 0 s).length c') (reachL M l 0 s) ∧ Below w.heap.size w w' := by
  have hM : M ≤ 8 := by have := (goodNet_get hg).1; omega
  have hn : n ≤ 10 := by have := (goodNet_get hg).2.1; have := h.1; omega
  have HLN := hid h.1
  have H := hid h
  have HG := hid hg
  have HSS := hid hs
  clear h hg hs
  go_enter Try.func74, Try.ntmps74
  go_wp2
  go_loopg [5, 6] (2 * (M + 1 - 1) + 1) (fun g o i wr => ∃ (R : List Int) (gg m c' : Nat) (b : Bool), g = 2 * (M + 1 - m) + b.toNat ∧ o = .slice (some ⟨gg, 0, none⟩) m c' ∧ i = .bool b ∧ Hid (∃ m0, RIn M n c a w l s m0 n b gg m c' R wr ∨ b = true ∧ RIn M n c a w l s 0 0 b gg m c' R wr))
  case atStart =>
    have hx : RIn M n c a w l s 0 0 true (w.heap.size + 1) 1 1 [s] ((w.alloc (.cells #[.int .i64 M, .slice a n c] 31)).alloc (.cells #[.int .i64 s] 3)) := by
      refine ⟨?_, Wet.start HG.out HSS.out, .inr ⟨rfl, by omega⟩, by go_grown, ?_⟩
      · have := World.ownsRow_lit (base := w.heap.size + 1) (e := 3) (size := 1) (w.alloc (.cells #[.int .i64 M, .slice a n c] 31)) #[.int .i64 s] 1 (by simp) (by decide) rfl
        exact OwnI.of_row (n := 1) (by simpa using this)
      · rw [cell_of_row _ _ _ _ _ (0, 0) (mid_new w _ _ _ rfl)]; rfl
    exact ⟨[s], w.heap.size + 1, 1, 1, true, rfl, rfl, rfl, hid ⟨0, .inr ⟨rfl, hx⟩⟩⟩
  case round =>
    obtain ⟨R0, gg0, m0, c0, b0, rfl, rfl, rfl, hh⟩ := hrel
    cases b0
    · have hr : RIn M n c a w l s m0 n false gg0 m0 c0 R0 wr := by
        obtain ⟨m1, h1 | ⟨h1, -⟩⟩ := hh.out
        · refine ⟨h1.own, h1.wet, ?_, h1.bel, h1.n1⟩
          rcases h1.clo with ⟨x, y, z⟩ | ⟨x, y⟩
          · exact .inl ⟨x, rfl, z⟩
          · cases x
        · cases h1
      have e := hr.wet.done HG.out (by
        rcases hr.clo with ⟨-, -, z⟩ | ⟨x, -⟩
        · intro k hk
          exact z k (by have := HLN.out; omega)
        · cases x)
      have hl := hr.own.len
      subst e
      subst hl
      have HR := hid hr
      clear hr
      go_wp2
      go_ret
      exact ⟨_, _, rfl, HR.out.own.mono (by omega), HR.out.bel⟩
    · have hr : RIn M n c a w l s m0 0 false gg0 m0 c0 R0 wr := by
        obtain ⟨m1, h1 | ⟨-, h1⟩⟩ := hh.out
        · exact ⟨h1.own, h1.wet, .inl ⟨rfl, rfl, fun j hj => by omega⟩, h1.bel, h1.n1⟩
        · exact ⟨h1.own, h1.wet, .inl ⟨rfl, rfl, fun j hj => by omega⟩, h1.bel, h1.n1⟩
      have hm0 : m0 ≤ M := by
        have := hr.wet.len
        have := hr.own.len
        omega
      have HR := hid hr
      clear hr hh
      obtain ⟨W0, hW0⟩ : ∃ W, W = wr := ⟨_, rfl⟩
      subst hW0
      go_wp2
      go_loopg [5, 6, 7] n (fun g o b i wr => ∃ (R : List Int) (gg m c' k : Nat) (bb : Bool), k ≤ n ∧ g = n - k ∧ i = .int .i64 k ∧ o = .slice (some ⟨gg, 0, none⟩) m c' ∧ b = .bool bb ∧ Hid (RIn M n c a w l s m0 k bb gg m c' R wr))
      case atStart => exact ⟨R0, gg0, m0, c0, 0, false, Nat.zero_le _, rfl, rfl, rfl, rfl, HR⟩
      case round =>
        obtain ⟨R, gg, m, c', k, bb, hk, rfl, rfl, rfl, rfl, hh⟩ := hrel
        have n1 := hh.out.n1
        have hz0 : w.heap.size < wr.heap.size := World.block_lt_of_cell? wr _ n1
        have hm : m ≤ M := by
          have := hh.out.wet.len
          have := hh.out.own.len
          omega
        have hm1 : 0 < m := by
          have := hh.out.wet.pos
          have := hh.out.own.len
          omega
        have hmc := own_cap hh.out.own
        by_cases hlt : k < n
        · obtain ⟨b0, off0, rfl, hbw, x0, x1, x2, x3⟩ := QAt.get (H.out.below hh.out.bel) k hlt
          have hkl : k < l.length := by have := HLN.out; omega
          have HE := hid (pipe_edge HG.out hkl)
          clear hkl x0 x3
          obtain ⟨F, hF⟩ : ∃ F, (pp l k).2.1 = F := ⟨_, rfl⟩
          obtain ⟨T, hT⟩ : ∃ T, (pp l k).2.2.1 = T := ⟨_, rfl⟩
          rw [hF] at x1 HE
          rw [hT] at x2 HE
          have HF := hid hF
          have HT := hid hT
          clear hF hT
          by_cases fa : F ∈ R
          · by_cases fb : T ∈ R
            · have FA := hid (show decide (F ∈ R) = true by simp [fa])
              have FB := hid (show decide (T ∈ R) = true by simp [fb])
              have FE := hid (show (pp l k).2.1 ∈ R ↔ (pp l k).2.2.1 ∈ R by rw [HF.out, HT.out]; simp [fa, fb])
              clear fa fb
              go_upto_region 8 with fail
              go_quiet (first | (go_at_call 75; exact quiet_eq (s_l1Has_is _ _ _ _ R _ (hh.out.own.at.below (bdraws _)) (by omega) _ (by first | exact FA.out | exact FB.out))))
              have HH := hid (hh.out.stay (bdraws nq))
              obtain ⟨hq1, -⟩ := bcell (bdraws nq : Below wr.heap.size wr (wr.drewN nq))
              have y1 := (hq1 _ _ hbw).trans x1
              have y2 := (hq1 _ _ hbw).trans x2
              clear hh hq1 x1 x2 n1 hz0 hbw
              have n1 := HH.out.n1
              generalize wr.drewN nq = wq at HH y1 y2 n1 ⊢
              have hz0 : w.heap.size < wq.heap.size := World.block_lt_of_cell? wq _ n1
              have hbw : b0 < wq.heap.size := World.block_lt_of_cell? wq _ y1
              go_wp2
              go_roundg (n - (k + 1))
              case rel => exact ⟨R, gg, m, c', k + 1, bb, by omega, rfl, by go_num, rfl, rfl, hid (HH.out.same (Below.refl _ _) FE.out)⟩
              case measure => omega
            · have FA := hid (show decide (F ∈ R) = true by simp [fa])
              have FB := hid (show decide (T ∈ R) = false by simp [fb])
              have F1 := hid fa
              have F2 := hid fb
              clear fa fb
              go_upto_region 8 with fail
              go_quiet (first | (go_at_call 75; exact quiet_eq (s_l1Has_is _ _ _ _ R _ (hh.out.own.at.below (bdraws _)) (by omega) _ (by first | exact FA.out | exact FB.out))))
              have HH := hid (hh.out.stay (bdraws nq))
              obtain ⟨hq1, -⟩ := bcell (bdraws nq : Below wr.heap.size wr (wr.drewN nq))
              have y1 := (hq1 _ _ hbw).trans x1
              have y2 := (hq1 _ _ hbw).trans x2
              clear hh hq1 x1 x2 n1 hz0 hbw
              have n1 := HH.out.n1
              generalize wr.drewN nq = wq at HH y1 y2 n1 ⊢
              have hz0 : w.heap.size < wq.heap.size := World.block_lt_of_cell? wq _ n1
              have hbw : b0 < wq.heap.size := World.block_lt_of_cell? wq _ y1
              go_upto_region 10 with fail
              have q0 : ∀ wy w5 : World, Below wy.heap.size wy w5 → (wy.cell? ⟨w.heap.size, 1, none⟩ = some (.slice (some ⟨b0, off0, none⟩) n c) ∧ wy.cell? ⟨b0, off0 + k * 4 + 1, none⟩ = some (.int .i64 F) ∧ wy.cell? ⟨b0, off0 + k * 4 + 2, none⟩ = some (.int .i64 T)) → (w5.cell? ⟨w.heap.size, 1, none⟩ = some (.slice (some ⟨b0, off0, none⟩) n c) ∧ w5.cell? ⟨b0, off0 + k * 4 + 1, none⟩ = some (.int .i64 F) ∧ w5.cell? ⟨b0, off0 + k * 4 + 2, none⟩ = some (.int .i64 T)) :=
                fun wy w5 hb ⟨z1, z2, z3⟩ => ⟨(hb.cell (World.block_lt_of_cell? wy _ z1)).trans z1, (hb.cell (World.block_lt_of_cell? wy _ z2)).trans z2, (hb.cell (World.block_lt_of_cell? wy _ z3)).trans z3⟩
              have Q0 := hid q0
              clear q0
              go_region_held3 (fun w' => (w'.cell? ⟨w.heap.size, 1, none⟩ = some (.slice (some ⟨b0, off0, none⟩) n c) ∧ w'.cell? ⟨b0, off0 + k * 4 + 1, none⟩ = some (.int .i64 F) ∧ w'.cell? ⟨b0, off0 + k * 4 + 2, none⟩ = some (.int .i64 T))) (first | go_keep | exact Q0.out _ _ (by assumption) (by first | assumption | (refine ⟨?_, ?_, ?_⟩ <;> assumption) | simp [*]))
                ((first | (go_at_call_of 101 F; refine (s_l1Put_in gg _ _ F R _ (HH.out.own.at.below (by go_grown)) (by omega) HH.out.wet.asc F1.out).mono ?_; rintro e _ ⟨rfl, rfl⟩) | (go_at_call_of 101 T; refine (s_l1Put_new gg _ _ T R _ (HH.out.own.at.below (by go_grown)) (by omega) (by omega) (by omega) F2.out).mono ?_; rintro e w5 ⟨a5, c5, rfl, ho5, hb5⟩; obtain ⟨g5, rfl, -, -⟩ := own_some ho5 (by omega); obtain ⟨hc5, hf5⟩ := bcell hb5)))
              have HQ := hid (HH.out.more (bstep (by go_grown : Below wq.heap.size wq wq.drew) hb5) ho5 (by simp <;> omega) (HH.out.wet.put HG.out F2.out F1.out HE.out.1))
              clear hb5 ho5 HH
              go_wp2
              go_roundg (n - (k + 1))
              case rel => exact ⟨ins T R, _, _, _, k + 1, true, by omega, rfl, by go_num, rfl, rfl, HQ⟩
              case measure => omega
          · by_cases fb : T ∈ R
            · have FA := hid (show decide (F ∈ R) = false by simp [fa])
              have FB := hid (show decide (T ∈ R) = true by simp [fb])
              have F1 := hid fa
              have F2 := hid fb
              clear fa fb
              go_upto_region 8 with fail
              go_quiet (first | (go_at_call 75; exact quiet_eq (s_l1Has_is _ _ _ _ R _ (hh.out.own.at.below (bdraws _)) (by omega) _ (by first | exact FA.out | exact FB.out))))
              have HH := hid (hh.out.stay (bdraws nq))
              obtain ⟨hq1, -⟩ := bcell (bdraws nq : Below wr.heap.size wr (wr.drewN nq))
              have y1 := (hq1 _ _ hbw).trans x1
              have y2 := (hq1 _ _ hbw).trans x2
              clear hh hq1 x1 x2 n1 hz0 hbw
              have n1 := HH.out.n1
              generalize wr.drewN nq = wq at HH y1 y2 n1 ⊢
              have hz0 : w.heap.size < wq.heap.size := World.block_lt_of_cell? wq _ n1
              have hbw : b0 < wq.heap.size := World.block_lt_of_cell? wq _ y1
              go_upto_region 10 with fail
              have q0 : ∀ wy w5 : World, Below wy.heap.size wy w5 → (wy.cell? ⟨w.heap.size, 1, none⟩ = some (.slice (some ⟨b0, off0, none⟩) n c) ∧ wy.cell? ⟨b0, off0 + k * 4 + 1, none⟩ = some (.int .i64 F) ∧ wy.cell? ⟨b0, off0 + k * 4 + 2, none⟩ = some (.int .i64 T)) → (w5.cell? ⟨w.heap.size, 1, none⟩ = some (.slice (some ⟨b0, off0, none⟩) n c) ∧ w5.cell? ⟨b0, off0 + k * 4 + 1, none⟩ = some (.int .i64 F) ∧ w5.cell? ⟨b0, off0 + k * 4 + 2, none⟩ = some (.int .i64 T)) :=
                fun wy w5 hb ⟨z1, z2, z3⟩ => ⟨(hb.cell (World.block_lt_of_cell? wy _ z1)).trans z1, (hb.cell (World.block_lt_of_cell? wy _ z2)).trans z2, (hb.cell (World.block_lt_of_cell? wy _ z3)).trans z3⟩
              have Q0 := hid q0
              clear q0
              go_region_held3 (fun w' => (w'.cell? ⟨w.heap.size, 1, none⟩ = some (.slice (some ⟨b0, off0, none⟩) n c) ∧ w'.cell? ⟨b0, off0 + k * 4 + 1, none⟩ = some (.int .i64 F) ∧ w'.cell? ⟨b0, off0 + k * 4 + 2, none⟩ = some (.int .i64 T))) (first | go_keep | exact Q0.out _ _ (by assumption) (by first | assumption | (refine ⟨?_, ?_, ?_⟩ <;> assumption) | simp [*]))
                ((first | (go_at_call_of 101 F; refine (s_l1Put_new gg _ _ F R _ (HH.out.own.at.below (by go_grown)) (by omega) (by omega) (by omega) F1.out).mono ?_; rintro e w5 ⟨a5, c5, rfl, ho5, hb5⟩; obtain ⟨g5, rfl, -, -⟩ := own_some ho5 (by omega); obtain ⟨hc5, hf5⟩ := bcell hb5) | (go_at_call_of 101 T; refine (s_l1Put_in g5 _ _ T (ins F R) _ ho5.at (by omega) (asc_ins HH.out.wet.asc F1.out) (mem_ins.2 (.inr F2.out))).mono ?_; rintro e _ ⟨rfl, rfl⟩)))
              have HQ := hid (HH.out.more (bstep (by go_grown : Below wq.heap.size wq wq.drew) hb5) ho5 (by simp <;> omega) (HH.out.wet.put HG.out F1.out F2.out HE.out.2))
              clear hb5 ho5 HH
              go_wp2
              go_roundg (n - (k + 1))
              case rel => exact ⟨ins F R, _, _, _, k + 1, true, by omega, rfl, by go_num, rfl, rfl, HQ⟩
              case measure => omega
            · have FA := hid (show decide (F ∈ R) = false by simp [fa])
              have FB := hid (show decide (T ∈ R) = false by simp [fb])
              have FE := hid (show (pp l k).2.1 ∈ R ↔ (pp l k).2.2.1 ∈ R by rw [HF.out, HT.out]; simp [fa, fb])
              clear fa fb
              go_upto_region 8 with fail
              go_quiet (first | (go_at_call 75; exact quiet_eq (s_l1Has_is _ _ _ _ R _ (hh.out.own.at.below (bdraws _)) (by omega) _ (by first | exact FA.out | exact FB.out))))
              have HH := hid (hh.out.stay (bdraws nq))
              obtain ⟨hq1, -⟩ := bcell (bdraws nq : Below wr.heap.size wr (wr.drewN nq))
              have y1 := (hq1 _ _ hbw).trans x1
              have y2 := (hq1 _ _ hbw).trans x2
              clear hh hq1 x1 x2 n1 hz0 hbw
              have n1 := HH.out.n1
              generalize wr.drewN nq = wq at HH y1 y2 n1 ⊢
              have hz0 : w.heap.size < wq.heap.size := World.block_lt_of_cell? wq _ n1
              have hbw : b0 < wq.heap.size := World.block_lt_of_cell? wq _ y1
              go_wp2
              go_roundg (n - (k + 1))
              case rel => exact ⟨R, gg, m, c', k + 1, bb, by omega, rfl, by go_num, rfl, rfl, hid (HH.out.same (Below.refl _ _) FE.out)⟩
              case measure => omega
        · obtain rfl : k = n := by omega
          go_wp2
          go_roundg (2 * (M + 1 - m) + bb.toNat)
          case rel => exact ⟨R, gg, m, c', bb, rfl, rfl, rfl, hid ⟨m0, .inl hh.out⟩⟩
          case measure =>
            have := hh.out.clo
            cases bb
            · simp at this ⊢
              omega
            · simp at this ⊢
              omega

end Go.Proofs.Ytikjighlnpdgiaa

