/-
  slices.Delete of one pipe.
-/
import Derived.Test.YthhogblnndmenaaPipeM
import Derived.Test.YthhogblnndmenaaWithout
import Derived.Deep.RegionLaw
import Derived.Deep.DeepAppendRoom
import Derived.Lib.SliceRun
import Derived.WalkSmall
set_option linter.unusedVariables false
set_option linter.unusedSimpArgs false
namespace Go.Proofs.Ythhogblnndmenaa
open Go.RowKit

def putL (xs : List Value) : Nat → List Value → List Value
  | _, [] => xs
  | o, v :: r => putL (xs.set o v) (o + 1) r
theorem putL_eq : ∀ (vs xs : List Value) (o : Nat), o + vs.length ≤ xs.length → putL xs o vs = xs.take o ++ vs ++ xs.drop (o + vs.length)
  | [], xs, o, h => by simp [putL]
  | v :: r, xs, o, h => by
    simp only [List.length_cons] at h
    rw [putL, putL_eq r (xs.set o v) (o + 1) (by simp; omega)]
    have hlt : o < xs.length := by omega
    rw [List.take_add_one, List.getElem?_set_self hlt, List.take_set_of_le (Nat.le_refl o), List.drop_set_of_lt (by omega)]
    simp only [Option.toList_some, List.length_cons, List.append_assoc, List.singleton_append, List.cons_append, List.nil_append]
    rw [show o + (r.length + 1) = o + 1 + r.length by omega]
theorem own_setCells {base : Nat} {e : TypeId} {size g cap n : Nat} : ∀ (vs : List Value) (o : Nat) (w : World) (xs : List Value), w.ownsRow base e size (.slice (some ⟨g, 0, none⟩) n cap) n xs → (w.setCells g o vs).ownsRow base e size (.slice (some ⟨g, 0, none⟩) n cap) n (putL xs o vs) ∧ w.grownBy (w.setCells g o vs) (some g)
  | [], _, w, _, h => ⟨h, grown_of_below (Below.refl _ _) _⟩
  | v :: r, o, w, xs, h => by
    obtain ⟨h1, h2⟩ := World.ownsRow.stored h o v
    obtain ⟨h3, h4⟩ := own_setCells r (o + 1) _ _ h1
    exact ⟨h3, grownBy_trans h2 h4⟩
theorem flat_take (l : List Pip) (i : Nat) : (l.flatMap qf).take (i * 4) = (l.take i).flatMap qf := by
  by_cases h : i ≤ l.length
  · have e : l.flatMap qf = (l.take i).flatMap qf ++ (l.drop i).flatMap qf := by rw [← List.flatMap_append, List.take_append_drop]
    have e2 : ((l.take i).flatMap qf).length = i * 4 := by rw [flat_len qf 4 qf_len, List.length_take]; congr 1; omega
    rw [e, ← e2, List.take_left']
    rfl
  · rw [List.take_of_length_le (by rw [flat_len qf 4 qf_len]; omega), List.take_of_length_le (l := l) (by omega)]
theorem run_clear_one {P : Program} (w : World) (t e ty : TypeId) (z : Value) (ht : P.underlying t = some (.slice e)) (hv : ∀ w, (zeroValue e).run P w = .ok z w) (h1 : ∀ u ∈ z.cells.toList, u.oneCell' = true) (b o c : Nat)
    (hc : ∀ j, j < z.cells.toList.length → (w.cell? ⟨b, o + j, none⟩).isSome = true) (hf : ∀ j, j < z.cells.toList.length → w.frozen? ⟨b, o + j, none⟩ = false) :
    (Builtin.clear_ #[t] ty #[.slice (some ⟨b, o, none⟩) 1 c]).run P w = .ok (.tuple #[]) (w.setCells b o z.cells.toList) := by
  have hzc : (Builtin.zeroCells z.cells 1).toList = z.cells.toList := by
    simp [Builtin.zeroCells]
    apply List.ext_getElem
    · simp
    · intro i h1 h2
      simp at h1 h2
      simp [Nat.mod_eq_of_lt h2]
      rw [getElem!_pos z.cells i (by assumption)]
  have hst := run_storeCells_cells (P := P) b o z.cells.toList 0 w (by simpa using hc) (by simpa using hf) h1
  simp only [Nat.add_zero] at hst
  simp [Builtin.clear_, run_underlying ht, hv, hzc, hst]

theorem flat_drop (l : List Pip) (i : Nat) : (l.flatMap qf).drop (i * 4) = (l.drop i).flatMap qf := by
  have h1 := List.take_append_drop (i * 4) (l.flatMap qf)
  rw [flat_take] at h1
  have h2 : (l.take i).flatMap qf ++ (l.drop i).flatMap qf = l.flatMap qf := by rw [← List.flatMap_append, List.take_append_drop]
  rw [← h2] at h1
  have h3 := List.append_cancel_left h1
  rw [h2] at h3
  exact h3
theorem Try.zeroPipe : ∀ w, (zeroValue 75).run Try.prog w = .ok (.agg #[.int .i64 0, .int .i64 0, .int .i64 0, .int .i64 0]) w := by
  intro w
  kernel_rfl

set_option maxRecDepth 100000 in
set_option maxHeartbeats 4000000 in
theorem f_DeletePipe (g n c i J B : Nat) (l : List Pip) (w : World) (h : OwnQ w B (.slice (some ⟨g, 0, none⟩) n c) l) (hn : n ≤ 1000) (hi : i < n) (hJ : J = i + 1) :
    Calls Try.prog 96 #[.slice (some ⟨g, 0, none⟩) n c, .int .i64 i, .int .i64 J] w fun e w' => e = .returned (.slice (some ⟨g, 0, none⟩) (n - 1) c) ∧ OwnQ w' B (.slice (some ⟨g, 0, none⟩) (n - 1) c) (l.eraseIdx i) ∧ w.grownBy w' (some g) := by
  obtain ⟨i0, hi0, hz0, hz1, hz2⟩ := info_parts Try.infoPipe
  have hl := OwnS.len h
  have hrow := OwnS.row h
  have hcap : n ≤ c := own_capQ h
  have hcm : c ≤ 9223372036854775807 := by
    rcases h.2 with ⟨h1, h0⟩ | ⟨g', cap, cur, h1, hB, hg, hnc, hm, hs, ht⟩
    · simp at h1
    · simp only [Value.slice.injEq] at h1
      obtain ⟨-, -, rfl⟩ := h1
      unfold maxLen at hm
      omega
  have hgz := (OwnS.lt h g rfl).2
  have hcell : ∀ t, t < n * 4 → w.cell? ⟨g, t, none⟩ = (l.flatMap qf)[t]? := fun t ht => World.ownsRow.cellAt hrow t ht
  have hfro : ∀ t, w.frozen? ⟨g, t, none⟩ = false := fun t => World.ownsRow.frozenAt hrow t
  have hfl := flat_len qf 4 qf_len l
  rw [hl] at hfl
  obtain ⟨news, hnews⟩ : ∃ news, news = (l.drop J).flatMap qf := ⟨_, rfl⟩
  have hnl : news.length = (n - J) * 4 := by rw [hnews, flat_len qf 4 qf_len, List.length_drop, hl]
  obtain ⟨h1, h2⟩ := own_setCells news (i * 4) w.drew _ (World.ownsRow.drew hrow)
  have he : l.take i ++ l.drop J = l.eraseIdx i := by rw [hJ, ← List.eraseIdx_eq_take_drop_succ]
  have hel : (l.eraseIdx i).length = n - 1 := by rw [List.length_eraseIdx_of_lt (by omega)]; omega
  have hput1 : putL (l.flatMap qf) (i * 4) news = (l.eraseIdx i).flatMap qf ++ (l.flatMap qf).drop ((n - 1) * 4) := by
    rw [putL_eq _ _ _ (by rw [hfl, hnl]; omega), flat_take, hnl, hnews, ← List.flatMap_append, he, show i * 4 + (n - J) * 4 = (n - 1) * 4 by omega]
  obtain ⟨W1, hW1⟩ : ∃ W1, W1 = w.drew.setCells g (0 + i * 4) news := ⟨_, rfl⟩
  rw [← Nat.zero_add (i * 4)] at h1 h2
  rw [← hW1] at h1 h2
  rw [Nat.zero_add, hput1] at h1
  have hel2 : ((l.eraseIdx i).flatMap qf).length = (n - 1) * 4 := by rw [flat_len qf 4 qf_len, hel]
  have hdl : ((l.flatMap qf).drop ((n - 1) * 4)).length = 4 := by rw [List.length_drop, hfl]; omega
  obtain ⟨h3, h4⟩ := own_setCells [.int .i64 0, .int .i64 0, .int .i64 0, .int .i64 0] ((n - 1) * 4) W1 _ h1
  have hput2 : putL ((l.eraseIdx i).flatMap qf ++ (l.flatMap qf).drop ((n - 1) * 4)) ((n - 1) * 4) [.int .i64 0, .int .i64 0, .int .i64 0, .int .i64 0] = (l.eraseIdx i).flatMap qf ++ [.int .i64 0, .int .i64 0, .int .i64 0, .int .i64 0] := by
    rw [putL_eq _ _ _ (by rw [List.length_append, hel2, hdl]; simp), List.take_left' hel2, List.drop_of_length_le (by rw [List.length_append, hel2, hdl]; simp), List.append_nil]
  rw [hput2] at h3
  have hcell1 : ∀ t, t < n * 4 → (W1.cell? ⟨g, t, none⟩).isSome = true := fun t ht => by
    rw [World.ownsRow.cellAt h1 t ht, List.getElem?_eq_getElem (by rw [List.length_append, hel2, hdl]; omega)]
    rfl
  have hfro1 : ∀ t, W1.frozen? ⟨g, t, none⟩ = false := fun t => World.ownsRow.frozenAt h1 t
  have hfin : OwnQ (W1.setCells g ((n - 1) * 4) [.int .i64 0, .int .i64 0, .int .i64 0, .int .i64 0]) B (.slice (some ⟨g, 0, none⟩) (n - 1) c) (l.eraseIdx i) := by
    refine OwnS.of_row qf_len (by decide) (n := n - 1) ?_
    refine ownsRow_pop (last := [.int .i64 0, .int .i64 0, .int .i64 0, .int .i64 0]) hel2 ?_
    rw [show n - 1 + 1 = n by omega]
    exact h3
  have HFIN := hid (show OwnQ (W1.setCells g ((n - 1) * 4) [.int .i64 0, .int .i64 0, .int .i64 0, .int .i64 0]) B (.slice (some ⟨g, 0, none⟩) (n - 1) c) (l.eraseIdx i) ∧ w.grownBy (W1.setCells g ((n - 1) * 4) [.int .i64 0, .int .i64 0, .int .i64 0, .int .i64 0]) (some g) from ⟨hfin, grownBy_trans (grownBy_trans (grown_of_below ((Below.refl _ _).drew) _) h2) h4⟩)
  obtain ⟨A, hA, hsrc⟩ : ∃ A : Addr, (if c = J then (some ⟨g, 0, none⟩ : Option Addr) else some ⟨g, J * 4, none⟩) = some A ∧ Hid (∀ t u, news[t]? = some u → w.drew.cell? (A.add t) = some u) := by
    by_cases hc : c = J
    · refine ⟨⟨g, 0, none⟩, by simp [hc], fun t u hu => ?_⟩
      have h0 : news.length = 0 := by rw [hnl]; omega
      rw [List.length_eq_zero_iff.1 h0] at hu
      simp at hu
    · refine ⟨⟨g, J * 4, none⟩, by simp [hc], fun t u hu => ?_⟩
      have ht : t < (n - J) * 4 := by rw [← hnl]; exact (List.getElem?_eq_some_iff.1 hu).1
      rw [addr_add]
      show w.cell? ⟨g, J * 4 + t, none⟩ = some u
      rw [hcell _ (by omega), ← hu, hnews, ← flat_drop, List.getElem?_drop]
  have s1 : Hid (news.length = (n - J) * 4) := hnl
  have s2 : Hid (∀ u ∈ news, u.oneCell' = true) := by
    intro u hu
    rw [hnews] at hu
    obtain ⟨x, -, hx⟩ := List.mem_flatMap.1 hu
    exact qf_one x u hx
  have s3 : Hid (∀ t, t < news.length → (w.drew.cell? ⟨g, 0 + i * 4 + t, none⟩).isSome = true ∧ w.drew.frozen? ⟨g, 0 + i * 4 + t, none⟩ = false) := by
    intro t ht
    rw [hnl] at ht
    refine ⟨?_, hfro _⟩
    show (w.cell? _).isSome = true
    rw [Nat.zero_add, hcell _ (by omega), List.getElem?_eq_getElem (by rw [hfl]; omega)]
    rfl
  have hcl : ∀ ty cc, (Builtin.clear_ #[29] ty #[.slice (some ⟨g, (n - 1) * 4, none⟩) 1 cc]).run Try.prog W1 = .ok (.tuple #[]) (W1.setCells g ((n - 1) * 4) [.int .i64 0, .int .i64 0, .int .i64 0, .int .i64 0]) := fun ty cc =>
    run_clear_one W1 _ _ ty (.agg #[.int .i64 0, .int .i64 0, .int .i64 0, .int .i64 0]) Try.underlying29 Try.zeroPipe (by intro u hu; simp [Value.cells] at hu; subst hu; rfl) g ((n - 1) * 4) cc (fun j hj => hcell1 _ (by simp [Value.cells] at hj; omega)) (fun j hj => hfro1 _)
  have hW : Hid (W1 = w.drew.setCells g (0 + i * 4) news) := hW1
  have X := hid hcl
  have hJ0 : (0 : Int) ≤ (J : Int) := by omega
  have hi0' : (0 : Int) ≤ (i : Int) := by omega
  have k1 : (i : Int) ≤ (J : Int) := by omega
  have k2 : (J : Int) ≤ (n : Int) := by omega
  have k3 : (n : Int) ≤ (c : Int) := by omega
  have k4 : ((i : Int) == (J : Int)) = false := by simp; omega
  have k5 : (i : Int) ≤ (n : Int) := by omega
  have k6 : (i : Int) ≤ (c : Int) := by omega
  have k7 : (J : Int) ≤ (c : Int) := by omega
  have HN := hid (show n - J + i = n - 1 ∧ i + (n - J) = n - 1 from by omega)
  clear h1 h2 h3 h4 hW1 hput1 hput2 hcell hcell1 hfro hfro1 hfin hcl hnews hnl he hel hel2 hdl hfl hrow h hJ
  go_enter Try.func96, Try.ntmps96
  go_upto_region 5 with fail
  go_region_law (refine step_append_room rfl (.tmp 22) (.tmp 25) 29 rfl 75 i0 4 Try.underlying29 hi0 hz1 g 0 i c (by simp [Act.eval, Act.put]) A (n - J) (c - J) news (by simp [Act.eval, Act.put]) s1.out hsrc.out s2.out (by omega) s3.out ?_; rw [← hW.out])
  have hcl2 : ∀ ty, (Builtin.clear_ #[29] ty #[.slice (some ⟨g, (i + (n - J)) * 4, none⟩) (n - (i + (n - J))) (c - (i + (n - J)))]).run Try.prog W1 = .ok (.tuple #[]) (W1.setCells g ((n - 1) * 4) [.int .i64 0, .int .i64 0, .int .i64 0, .int .i64 0]) := fun ty => by
    rw [HN.out.2, show n - (n - 1) = 1 by omega]
    exact X.out ty _
  have hcc : ¬ c = i + (n - J) := by have := HN.out; omega
  go_wp2
  go_ret
  rw [HN.out.2]
  exact ⟨rfl, HFIN.out.1, HFIN.out.2⟩

end Go.Proofs.Ythhogblnndmenaa
