/-
  An argument that is a slice of structs of whole numbers, opened.
-/
import Derived.Test.YtpcbeapajlchgaaLift
import Derived.Test.YtpcbeapajlchgaaSRows
set_option linter.unusedVariables false
set_option linter.unusedSimpArgs false
namespace Go.Proofs.Ytpcbeapajlchgaa
open Go.ChangeShapes Go.WideShapes Go.ChangeAt Go.RowKit Go.Joins Go.Deep

theorem spot_none {w : World} {a : Addr} {v : Value} (h : w.cell? a = some v) : a.spot = none := by
  unfold World.cell? at h
  split at h
  · split at h
    · cases h
    · rename_i hs
      cases hq : a.spot with
      | none => rfl
      | some _ => rw [hq] at hs; exact absurd rfl hs
  · cases h

abbrev i64 (x : Int) : Prop := -9223372036854775808 ≤ x ∧ x ≤ 9223372036854775807
theorem wf_i64 {n : Int} (h : (Lit.int .i64 n).wf = true) : i64 n := by
  simpa [Lit.wf, IntKind.min, IntKind.max, IntKind.signed, IntKind.bits] using h

set_option maxRecDepth 100000 in
theorem open_structs_at {α : Type} [Inhabited α] (f : α → List Value) (s : Nat) (hs : 0 < s) (hfl : ∀ x, (f x).length = s) (G : α → Prop) {H : Type} {enc : TypeId × Value → H} {W : World} {base : Nat} {v : Value} {d : DataW H} {p : List MemPlace} {t e : TypeId}
    (ht : Try.prog.underlying t = some (.slice e)) (hC : Try.prog.cellsOf e = s)
    (hel : ∀ fuel cs x, DataW.trod enc Try.prog W 0 (fun _ => true) true fuel e cs = some x → ∃ y, cs = f y ∧ G y)
    (hv : Value.okWide Try.prog W .any base t v) (h : DataW.Trod enc Try.prog W 0 (fun _ => true) true t v d p) :
    ∃ a n c l, v = .slice a n c ∧ SAt f s W a n l ∧ n ≤ 9223372036854775807 ∧ ∀ x ∈ l, G x := by
  obtain ⟨a0, len, cap, rfl⟩ := okWide_slice ht hv
  obtain ⟨fuel, hf⟩ := h
  rcases open_slice ht hf with ⟨hcs, hx⟩ | ⟨a, len', cap', m, n, D, Pl, hcs, _, hl, hm, hmm, hx, hi⟩
  · simp [Value.cells] at hcs
    obtain ⟨rfl, rfl, rfl⟩ := hcs
    exact ⟨_, _, _, [], rfl, SAt.nil _ _, by omega, fun x hx => by cases hx⟩
  · simp [Value.cells] at hcs
    obtain ⟨rfl, rfl, rfl⟩ := hcs
    simp only [if_true] at hmm
    subst hmm
    have he : ∀ i, ∃ y, i < m → (∀ j, j < s → W.cell? ((a.add (i * s)).add j) = (f y)[j]?) ∧ G y := by
      intro i
      by_cases hlt : i < m
      · obtain ⟨cs', h1, h2⟩ := hi i hlt
        obtain ⟨y, rfl, hg⟩ := hel _ _ _ h2
        rw [hC] at h1
        exact ⟨y, fun _ => ⟨(World.cells?_some h1).2.2, hg⟩⟩
      · exact ⟨default, fun h => absurd h hlt⟩
    have hy := fun i => Classical.choose_spec (he i)
    generalize hY : (fun i => Classical.choose (he i)) = Y at hy
    have hy' : ∀ i, i < m → (∀ j, j < s → W.cell? ((a.add (i * s)).add j) = (f (Y i))[j]?) ∧ G (Y i) := by
      intro i; have := hy i; rw [← hY]; exact this
    refine ⟨_, _, _, (List.range len).map Y, rfl, ⟨by simp, ?_⟩, by unfold maxLen at hm; omega, ?_⟩
    · intro k hk
      have h0 := (hy' k (by omega)).1 0 hs
      have hlen := hfl (Y k)
      rw [List.getElem?_eq_getElem (by omega)] at h0
      have hb := World.block_lt_of_cell? W _ h0
      have h00 := (hy' 0 (by omega)).1 0 hs
      have hlen0 := hfl (Y 0)
      rw [List.getElem?_eq_getElem (by omega)] at h00
      have hsp := spot_none h00
      obtain ⟨b, off, sp⟩ := a
      have hsp' : sp = none := by simpa [Addr.add] using hsp
      subst hsp'
      simp only [addr_add] at hb
      refine ⟨b, off, rfl, hb, fun j hj => ?_⟩
      have := (hy' k (by omega)).1 j hj
      simp only [addr_add] at this
      rw [this]
      simp [hk]
    · intro x hx
      obtain ⟨i, hi1, rfl⟩ := List.mem_map.1 hx
      exact (hy' i (by have := List.mem_range.1 hi1; omega)).2

theorem int_cells {H : Type} {enc : TypeId × Value → H} {W : World} {fuel : Nat} {cs : List Value} {y : DataW H × List MemPlace} {j s : Nat} (hlen : cs.length = s) (hj : j < s)
    (h : DataW.trod enc Try.prog W 0 (fun _ => true) true fuel 3 ((cs.drop j).take 1) = some y) : ∃ x, cs[j]? = some (.int .i64 x) ∧ i64 x := by
  obtain ⟨x, e, _, wf⟩ := DataW.trod_int Try.underlying3 h
  have e' := congrArg (fun l => l[0]?) e
  exact ⟨x, by simpa [List.getElem?_take, List.getElem?_drop] using e', wf_i64 wf⟩

end Go.Proofs.Ytpcbeapajlchgaa
