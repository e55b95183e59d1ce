/-
  A region in any order whose last operation stores what the others have read: the condition on the world need not hold behind that one.
-/
import Derived.Test.YtpcbeapajlchgaaTakeH
set_option linter.unusedVariables false
set_option linter.unusedSimpArgs false
namespace Go.Proofs.Ytpcbeapajlchgaa
open Go.RowKit

section
variable {P : Program} {md : Region.Mode} {ops : Array Oper} {Q : Exit → Act → World → Prop} {S : World → Prop} {z : Nat}

/-- Any order from here on; S is asked behind each operation but z. -/
def AnyTo (P : Program) (md : Region.Mode) (ops : Array Oper) (Q : Exit → Act → World → Prop) (S : World → Prop) (z : Nat) : Nat → Array Bool → Act → World → Prop
  | 0, done, a, w => Region.ready md ops done = [] ∧ Q .normal a w
  | n + 1, done, a, w => (Region.ready md ops done = [] → Q .normal a w) ∧
      ∀ i ∈ Region.ready md ops done, wpOp P ops Q i (fun b v => (i ≠ z → S v) ∧ AnyTo P md ops Q S z n (done.setIfInBounds i true) b v) a w
theorem AnyTo.any : ∀ (n : Nat) (done : Array Bool) (a : Act) (w : World), AnyTo P md ops Q S z n done a w → wpAny P md ops Q n done a w
  | 0, _, _, _, h => h
  | n + 1, _, _, _, h => ⟨h.1, fun i hi => wpOp_mono (fun b v hv => AnyTo.any n _ b v hv.2) (h.2 i hi)⟩
/-- Operation z waits for operation i. -/
def waitsFor (md : Region.Mode) (ops : Array Oper) (z i : Nat) : Bool :=
  match ops[z]? with
  | some o => o.after.any fun e => Region.binds md e && e.on == i
  | none => false
theorem not_ready {i : Nat} {done : Array Bool} (hw : waitsFor md ops z i = true) (hi : done.getD i true = false) : z ∉ Region.ready md ops done := by
  intro hz
  obtain ⟨-, o, ho, hall⟩ := mem_ready.1 hz
  unfold waitsFor at hw
  rw [ho] at hw
  simp only [Array.any_eq_true] at hw
  obtain ⟨k, hk, hb⟩ := hw
  rw [Bool.and_eq_true, beq_iff_eq] at hb
  have h1 := hall _ (Array.getElem_mem hk) hb.1
  rw [hb.2] at h1
  by_cases hlt : i < done.size
  · simp [hlt] at hi h1
    rw [hi] at h1
    cases h1
  · simp [Array.getElem?_eq_none (by omega : done.size ≤ i)] at h1
theorem AnyTo.first {i : Nat} {oi : Oper} {v : Value} (hi : ops[i]? = some oi) (hs : Region.noSelect ops = true) (hw : waitsFor md ops z i = true)
    (hQ : ∀ c a w, Q (.panic c) (a.put oi.dst v) w → Q (.panic c) a w) : ∀ (n : Nat) (done : Array Bool) (a : Act) (w : World),
      (∀ j oj, ops[j]? = some oj → j ≠ i → done.getD j true = false → (∀ e ∈ oj.after, Region.binds md e = true → e.on ≠ i) → oi.apart ops oj = true) →
      i ∈ Region.ready md ops done → YieldsIf P ops S oi v a → S w →
      AnyTo P md ops Q S z n (done.setIfInBounds i true) (a.put oi.dst v) w → AnyTo P md ops Q S z (n + 1) done a w
  | 0, done, a, w, _, hr, hy, hS, H => by
    refine ⟨fun h => (by rw [h] at hr; cases hr), fun j hj => ?_⟩
    by_cases e : j = i
    · subst e; exact hy.wpOp hi hS ⟨fun _ => hS, H⟩
    · have h1 := ready_mono hj e
      rw [H.1] at h1
      cases h1
  | n + 1, done, a, w, hfree, hr, hy, hS, H => by
    refine ⟨fun h => (by rw [h] at hr; cases hr), fun j hj => ?_⟩
    by_cases e : j = i
    · subst e; exact hy.wpOp hi hS ⟨fun _ => hS, H⟩
    · have hun := (mem_ready.1 hr).1
      have hjz : j ≠ z := fun e2 => by subst e2; exact not_ready hw hun hj
      have h1 := H.2 j (ready_mono hj e)
      obtain ⟨hju, oj, hoj, hall⟩ := mem_ready.1 hj
      have hno : ∀ e ∈ oj.after, Region.binds md e = true → e.on ≠ i := fun e he hb e2 => by
        have h2 := hall e he hb
        rw [e2] at h2
        by_cases hlt : i < done.size
        · simp [hlt] at hun h2
          rw [hun] at h2
          cases h2
        · simp [Array.getElem?_eq_none (by omega : done.size ≤ i)] at h2
      have h2 := wpOp_putIf hoj (hfree j oj hoj e hju hno) (fun cs b => Region.noSelect_spec hs i oi cs b hi) (fun cs b => Region.noSelect_spec hs j oj cs b hoj) hQ hy h1
      refine wpOp_mono (fun b u h3 => ⟨h3.2.1, AnyTo.first hi hs hw hQ n (done.setIfInBounds j true) b u (fun k ok hk hki hku hkn => hfree k ok hk hki (by
        by_cases ejk : j = k
        · subst ejk; exact hju
        · rw [getD_set_ne true ejk] at hku; exact hku) hkn) (ready_mono hr (Ne.symm e)) h3.1 (h3.2.1 hjz) (by rw [Array.setIfInBounds_comm _ _ e]; exact h3.2.2)⟩) h2
/-- What yields its value in every world that meets S is taken first. -/
theorem AnyTo.take {i : Nat} {oi : Oper} {rest : List Oper} {v : Value} {n : Nat} {done : Array Bool} {a : Act} {w : World} (hi : ops.toList.drop i = oi :: rest)
    (hs : Region.noSelect ops = true) (hf : Region.free md ops done i = true) (hr : (Region.ready md ops done).contains i = true) (hw : waitsFor md ops z i = true)
    (hQ : ∀ c a w, Q (.panic c) (a.put oi.dst v) w → Q (.panic c) a w) (hy : YieldsIf P ops S oi v a) (hS : S w)
    (h : AnyTo P md ops Q S z n (done.setIfInBounds i true) (a.put oi.dst v) w) : AnyTo P md ops Q S z (n + 1) done a w :=
  AnyTo.first (drop_get hi) hs hw hQ n done a w (Region.free_spec (drop_get hi) hf) (by simpa using hr) hy hS h
/-- One operation alone may come up. -/
theorem AnyTo.one {i : Nat} {o : Oper} {rest : List Oper} {n : Nat} {done : Array Bool} {a : Act} {w : World} (ho : ops.toList.drop i = o :: rest) (hr : Region.ready md ops done = [i])
    (h : ∀ K : Act → World → Prop, Shut (∀ b v, S v → (S v → AnyTo P md ops Q S z n (done.setIfInBounds i true) b v) → K b v) → if Region.wanted o (yielded ops a.tmps) = true then Oper.wp P o a w K Q else K (a.put o.dst undef) w) : AnyTo P md ops Q S z (n + 1) done a w := by
  refine ⟨fun h0 => (by rw [hr] at h0; cases h0), fun j hj => ?_⟩
  rw [hr] at hj
  obtain rfl := List.mem_singleton.1 hj
  exact wpOp_step (drop_get ho) (fun K hK => h K (fun b v hS hv => hK b v ⟨fun _ => hS, hv hS⟩))
/-- The last operation. -/
theorem AnyTo.last {o : Oper} {rest : List Oper} {n : Nat} {done : Array Bool} {a : Act} {w : World} (ho : ops.toList.drop z = o :: rest) (hr : Region.ready md ops done = [z])
    (hd : Region.ready md ops (done.setIfInBounds z true) = [])
    (h : ∀ K : Act → World → Prop, Shut (∀ b v, Q .normal b v → K b v) → if Region.wanted o (yielded ops a.tmps) = true then Oper.wp P o a w K Q else K (a.put o.dst undef) w) : AnyTo P md ops Q S z (n + 1) done a w := by
  refine ⟨fun h0 => (by rw [hr] at h0; cases h0), fun j hj => ?_⟩
  rw [hr] at hj
  obtain rfl := List.mem_singleton.1 hj
  refine wpOp_step (drop_get ho) (fun K hK => h K (fun b v hv => hK b v ⟨fun h => absurd rfl h, ?_⟩))
  cases n with
  | zero => exact ⟨hd, hv⟩
  | succ n => exact ⟨fun _ => hv, by rw [hd]; intro i hi; cases hi⟩
theorem wp_region_to {id : Nat} {a : Act} {w : World} (S : World → Prop) (z : Nat) (hm : P.follows .mixedOrders = true) (hS : S w.drew)
    (h : S w.drew → AnyTo P .any ops Q S z ops.size (Array.replicate ops.size false) a w.drew) : (Code.region id ops true).wp P Q a w :=
  wp_region_any hm (AnyTo.any _ _ _ _ (h hS))
end

end Go.Proofs.Ytpcbeapajlchgaa
