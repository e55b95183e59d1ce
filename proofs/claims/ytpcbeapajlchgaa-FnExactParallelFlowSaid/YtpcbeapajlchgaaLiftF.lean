/-
  A slice that is a field of an argument, opened.
-/
import Derived.Test.YtpcbeapajlchgaaLiftS
set_option linter.unusedVariables false
set_option linter.unusedSimpArgs false
namespace Go.Proofs.Ytpcbeapajlchgaa
open Go.ChangeShapes Go.WideShapes Go.ChangeAt Go.RowKit Go.Joins Go.Deep

set_option maxRecDepth 100000 in
theorem open_ints_f {H : Type} {enc : TypeId × Value → H} {W : World} {fuel : Nat} {v : Value} {y : DataW H × List MemPlace}
    (hf : DataW.trod enc Try.prog W 0 (fun _ => true) true fuel 81 [v] = some y) :
    ∃ a n c l, v = .slice a n c ∧ IntsAt W a n l ∧ n ≤ 9223372036854775807 ∧ ∀ x ∈ l, -9223372036854775808 ≤ x ∧ x ≤ 9223372036854775807 := by
  rcases open_ints Try.underlying81 Try.underlying3 Try.cellsInt hf with ⟨hcs, hx⟩ | ⟨a, len, cap, zs, hcs, _, hl, hm, hz, hx, hcell, hwz⟩
  · simp only [List.cons.injEq, and_true] at hcs
    subst hcs
    exact ⟨_, _, _, [], rfl, IntsAt.nil _ _, by omega, fun x hx => by cases hx⟩
  · simp only [List.cons.injEq, and_true] at hcs
    subst hcs
    simp at hz
    refine ⟨_, _, _, zs.take len, rfl, ⟨by rw [List.length_take]; omega, ?_⟩, by unfold maxLen at hm; omega, ?_⟩
    · intro k hk
      have h0 := hcell 0 (by omega)
      have hb := World.block_lt_of_cell? W _ (hcell 0 (by omega))
      have hsp : a.spot = none := by
        simp only [Addr.add, if_pos] at h0
        unfold World.cell? at h0
        split at h0
        · split at h0
          · cases h0
          · rename_i hs
            cases hq : a.spot with
            | none => rfl
            | some _ => rw [hq] at hs; exact absurd rfl hs
        · cases h0
      obtain ⟨b, off, sp⟩ := a
      simp only at hsp
      subst hsp
      refine ⟨b, off, rfl, by simpa [addr_add] using hb, ?_⟩
      have hk' := hcell k (by omega)
      rw [addr_add] at hk'
      rw [hk', List.getElem?_take, if_pos hk]
      rfl
    · intro x hx
      have := hwz x (List.mem_of_mem_take hx)
      simpa [Lit.wf, IntKind.min, IntKind.max, IntKind.signed, IntKind.bits] using this


set_option maxRecDepth 100000 in
theorem open_structs_f {α : Type} [Inhabited α] (f : α → List Value) (s : Nat) (hs : 0 < s) (hfl : ∀ x, (f x).length = s) (G : α → Prop) {H : Type} {enc : TypeId × Value → H} {W : World} {fuel : Nat} {v : Value} {y : DataW H × List MemPlace} {t e : TypeId}
    (ht : Try.prog.underlying t = some (.slice e)) (hC : Try.prog.cellsOf e = s)
    (hel : ∀ fuel cs x, DataW.trod enc Try.prog W 0 (fun _ => true) true fuel e cs = some x → ∃ y, cs = f y ∧ G y)
    (hf : DataW.trod enc Try.prog W 0 (fun _ => true) true fuel t [v] = some y) :
    ∃ a n c l, v = .slice a n c ∧ SAt f s W a n l ∧ n ≤ 9223372036854775807 ∧ ∀ x ∈ l, G x := by
  rcases open_slice ht hf with ⟨hcs, hx⟩ | ⟨a, len, cap, m, n, D, Pl, hcs, _, hl, hm, hmm, hx, hi⟩
  · simp only [List.cons.injEq, and_true] at hcs
    subst hcs
    exact ⟨_, _, _, [], rfl, SAt.nil _ _, by omega, fun x hx => by cases hx⟩
  · simp only [List.cons.injEq, and_true] at hcs
    subst hcs
    simp only [if_true] at hmm
    subst hmm
    have he : ∀ i, ∃ y, i < m → (∀ j, j < s → W.cell? ((a.add (i * s)).add j) = (f y)[j]?) ∧ G y := by
      intro i
      by_cases hlt : i < m
      · obtain ⟨cs', h1, h2⟩ := hi i hlt
        obtain ⟨y, rfl, hg⟩ := hel _ _ _ h2
        rw [hC] at h1
        exact ⟨y, fun _ => ⟨(World.cells?_some h1).2.2, hg⟩⟩
      · exact ⟨default, fun h => absurd h hlt⟩
    have hy := fun i => Classical.choose_spec (he i)
    generalize hY : (fun i => Classical.choose (he i)) = Y at hy
    have hy' : ∀ i, i < m → (∀ j, j < s → W.cell? ((a.add (i * s)).add j) = (f (Y i))[j]?) ∧ G (Y i) := by
      intro i; have := hy i; rw [← hY]; exact this
    refine ⟨_, _, _, (List.range len).map Y, rfl, ⟨by simp, ?_⟩, by unfold maxLen at hm; omega, ?_⟩
    · intro k hk
      have h0 := (hy' k (by omega)).1 0 hs
      have hlen := hfl (Y k)
      rw [List.getElem?_eq_getElem (by omega)] at h0
      have hb := World.block_lt_of_cell? W _ h0
      have h00 := (hy' 0 (by omega)).1 0 hs
      have hlen0 := hfl (Y 0)
      rw [List.getElem?_eq_getElem (by omega)] at h00
      have hsp := spot_none h00
      obtain ⟨b, off, sp⟩ := a
      have hsp' : sp = none := by simpa [Addr.add] using hsp
      subst hsp'
      simp only [addr_add] at hb
      refine ⟨b, off, rfl, hb, fun j hj => ?_⟩
      have := (hy' k (by omega)).1 j hj
      simp only [addr_add] at this
      rw [this]
      simp [hk]
    · intro x hx
      obtain ⟨i, hi1, rfl⟩ := List.mem_map.1 hx
      exact (hy' i (by have := List.mem_range.1 hi1; omega)).2

set_option maxRecDepth 100000 in
/-- A struct of one field of one cell. -/
theorem open_agg1 {H : Type} {enc : TypeId × Value → H} {W : World} {base : Nat} {t : TypeId} {f0 : Field} {v : Value} {d : DataW H} {p : List MemPlace} (hs : Try.prog.underlying t = some (.struct #[f0])) (hone : oneCellFields Try.prog #[f0] = true) (hC : Try.prog.cellsOf t = 1)
    (hv : Value.okWide Try.prog W .any base t v) (h : DataW.Trod enc Try.prog W 0 (fun _ => true) true t v d p) :
    ∃ (v0 : Value) (y0 : DataW H × List MemPlace) (n : Nat), v = .agg #[v0] ∧ d = .agg [y0.1] ∧ p = y0.2 ∧ DataW.trod enc Try.prog W 0 (fun _ => true) true n f0.type [v0] = some y0 := by
  obtain ⟨cs, rfl, hsz⟩ := okWide_struct hs hv
  obtain ⟨c0, rfl⟩ : ∃ c0, cs = #[c0] := by
    have e := hsz.trans hC
    match cs, e with
    | ⟨[c0]⟩, _ => exact ⟨c0, rfl⟩
  obtain ⟨fuel, hf⟩ := h
  obtain ⟨y0, n, hx, _, h0⟩ := trod_struct1 hs hf
  obtain ⟨o0, k0⟩ := hone_of hone 0 f0 rfl
  simp only [Prod.mk.injEq] at hx
  exact ⟨c0, y0, n, rfl, hx.1, hx.2, by simpa [Value.cells, o0, k0] using h0⟩

end Go.Proofs.Ytpcbeapajlchgaa
