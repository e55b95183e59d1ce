/-
  Heads in a tree: the reference's walk.
-/
import Derived.Test.YthhogblnndmenaaHeadA
import Derived.Test.YthhogblnndmenaaAlong
set_option linter.unusedVariables false
set_option linter.unusedSimpArgs false
namespace Go.Proofs.Ythhogblnndmenaa
open Go.RowKit

theorem tflow_fit {M : Nat} {l : List Pip} {s : Int} {ds : List Int} {i : Nat} (hM : M ≤ 8) (hl : ds.length = M) (h : ∀ x ∈ ds, 0 ≤ x ∧ x ≤ 1000) : -8000 ≤ tflow M l s ds i ∧ tflow M l s ds i ≤ 8000 := by
  have := dsum_fit (D := distL M l (pp l i).1 s) h M (by omega)
  unfold tflow
  split <;> omega
theorem tflows_good {M n : Nat} {l : List Pip} {s : Int} {ds : List Int} (hM : M ≤ 8) (hl : ds.length = M) (h : ∀ x ∈ ds, 0 ≤ x ∧ x ≤ 1000) : goodFl n (tflows M l s ds n) = true := by
  rw [goodFl_iff]
  refine ⟨tflows_len _ _ _ _ _, fun x hx => ?_⟩
  unfold tflows at hx
  obtain ⟨i, -, rfl⟩ := List.mem_map.1 hx
  exact tflow_fit hM hl h

set_option maxRecDepth 100000 in
set_option maxHeartbeats 4000000 in
theorem s_l9Heads (M s : Nat) (hd0 : Int) (a p : Option Addr) (n c d : Nat) (l : List Pip) (ds : List Int) (w : World) (h : QAt w a n l) (h' : IntsAt w p M ds) (hg : goodNet M l = true) (hs : 1 ≤ s ∧ s ≤ M) (hd : ∀ x ∈ ds, 0 ≤ x ∧ x ≤ 1000) (ht : treeB M l = true) (hc : n ≤ c) (hh0 : 0 ≤ hd0 ∧ hd0 ≤ 100000000000) :
    Calls Try.prog 79 #[.agg #[.int .i64 M, .slice a n c], .int .i64 s, .slice p M d, .int .i64 hd0] w fun e w' => ∃ a' c', e = .returned (.slice a' M c') ∧ OwnI w' w.heap.size (.slice a' M c') (headL l (tflows M l s ds n) s hd0 M) ∧ Below w.heap.size w w' := by
  have hM : M ≤ 8 := by have := (goodNet_get hg).1; omega
  have hn : n ≤ 10 := by have := (goodNet_get hg).2.1; have := h.1; omega
  have hln := h.1
  have HLN := hid h.1
  have H := hid h
  have H' := hid h'
  have HG := hid hg
  have HD := hid hd
  have HT := hid ht
  have HF := hid (tflows_good (n := n) (l := l) (s := (s : Int)) hM h'.1 hd)
  have HFL := hid (show goodFl l.length (tflows M l s ds n) = true by rw [hln]; exact tflows_good hM h'.1 hd)
  obtain ⟨fs, hfs⟩ : ∃ fs, tflows M l s ds n = fs := ⟨_, rfl⟩
  have HFS := hid hfs
  rw [hfs] at HF HFL ⊢
  clear h h' hg hd ht hln hfs
  go_enter Try.func79, Try.ntmps79
  go_upto_region 1 with fail
  have BA := hid (by go_grown : Below w.heap.size w (w.alloc (.cells #[.int .i64 M, .slice a n c] 31)))
  have N0 := hid (cell_of_row _ _ 0 _ _ (0, 0) (heap_alloc_new w (.cells #[.int .i64 M, .slice a n c] 31)))
  have N1 := hid (cell_of_row _ _ 1 _ _ (0, 0) (heap_alloc_new w (.cells #[.int .i64 M, .slice a n c] 31)))
  have hzA : w.heap.size < (w.alloc (.cells #[.int .i64 M, .slice a n c] 31)).heap.size := by simp
  have n0 := N0.out
  have n1 := N1.out
  simp only [List.getElem?_toArray, List.getElem?_cons_zero, List.getElem?_cons_succ] at n0 n1
  generalize w.alloc (.cells #[.int .i64 M, .slice a n c] 31) = wA at *
  go_wp2_with fail
  refine (s_l8TreeFlows M s _ _ n _ _ l ds _ (H.out.below BA.out) (H'.out.below BA.out) HG.out (by omega) HD.out HT.out hc).mono ?_
  rintro e w1 ⟨a1, c1, rfl, ho1, hb1⟩
  rw [HFS.out] at ho1
  have HO1 := hid ho1
  have HB1 := hid hb1
  have hz1 : w.heap.size < w1.heap.size := by have := hb1.size; omega
  have n0 := (HB1.out.cell (p := ⟨w.heap.size, 0, none⟩) hzA).trans N0.out
  have n1 := (HB1.out.cell (p := ⟨w.heap.size, 1, none⟩) hzA).trans N1.out
  simp only [List.getElem?_toArray, List.getElem?_cons_zero, List.getElem?_cons_succ] at n0 n1
  have M0 := hid n0
  have M1 := hid n1
  clear ho1 hb1
  go_wp2
  go_loopg [10, 11] M (fun g o i wr => ∃ (k : Nat) (a' : Option Addr) (c' : Nat), k ≤ M ∧ g = M - k ∧ i = .int .i64 ((k : Int) + 1) ∧ o = .slice a' k c' ∧ Hid (OwnI wr w1.heap.size (.slice a' k c') (headL l fs s hd0 k) ∧ Below w1.heap.size w1 wr))
  case atStart => exact ⟨0, _, 0, Nat.zero_le _, rfl, rfl, rfl, hid ⟨by simpa [headL] using OwnI.lit0 w1, by go_grown⟩⟩
  case round =>
    obtain ⟨k, a', c', hk, rfl, rfl, rfl, hh⟩ := hrel
    clear n0 n1
    have n0 := (hh.out.2.cell (p := ⟨w.heap.size, 0, none⟩) hz1).trans M0.out
    have n1 := (hh.out.2.cell (p := ⟨w.heap.size, 1, none⟩) hz1).trans M1.out
    have hz0 : w.heap.size < wr.heap.size := World.block_lt_of_cell? wr _ n0
    by_cases hlt : k < M
    · have hkm : (k : Int) + 1 ≤ (M : Int) := by omega
      obtain ⟨t0, ht0⟩ : ∃ t0 : Nat, (k : Int) + 1 = t0 := ⟨k + 1, by omega⟩
      have htM : 1 ≤ t0 ∧ t0 ≤ M := by omega
      have hc0 : 0 ≤ far l 0 t0 s := ((treeB_iff HG.out).1 HT.out).2 t0 s (by omega) (by omega) (by omega) (by omega)
      obtain ⟨d0, hd0'⟩ : ∃ d0 : Nat, far l 0 t0 s = d0 := ⟨(far l 0 t0 s).toNat, by omega⟩
      have hdM : d0 < M := by have := far_lt (wo := 0) (v := (s : Int)) HG.out (show 1 ≤ (t0 : Int) ∧ (t0 : Int) ≤ M by omega) (by omega) (by omega); omega
      have lf := lsum_fit (t := (t0 : Int)) (v0 := (s : Int)) HG.out HFL.out (by omega) (by omega) d0 (by rw [hd0']; omega)
      have HE := hid (show headL l fs s hd0 (k + 1) = headL l fs s hd0 k ++ [hd0 - lsum l fs (far l 0 t0) s d0] from by
        rw [headL_succ, ht0]
        unfold headAt
        rw [hd0']
        rfl)
      have hw9 := IntWalk.i64_in (hd0 - lsum l fs (far l 0 t0) s d0) (by omega)
      have HDD := hid hd0'
      have HT0 := hid ht0
      obtain ⟨y, hy⟩ : ∃ y, lsum l fs (far l 0 t0) s d0 = y := ⟨_, rfl⟩
      rw [hy] at lf HE hw9
      have HY := hid hy
      clear hd0' ht0 hy
      go_wp2_with fail
      rw [HT0.out]
      refine (s_l9Along M s t0 _ _ _ _ _ l fs _ (H.out.below (bstep (bstep BA.out HB1.out) hh.out.2)) ((HO1.out.at).below hh.out.2) HG.out HF.out hs htM d0 HDD.out).mono ?_
      rintro e w2 ⟨rfl, hb2⟩
      rw [HY.out, ← HT0.out]
      have HB2 := hid hb2
      have ho2 := hh.out.1.below hb2
      clear hb2 n0 n1
      go_wp2_with (at_builtin; refine wp_append_ints _ rfl _ _ rfl w1.heap.size _ (headL l fs s hd0 k) rfl (ho2.alloc _) _ 1 1 [hd0 - y] rfl (IntsAt.single _ _) (k + 1) (by simp [headL_len]) (by omega) (by have := hh.out.2.size; have := HB2.out.size; simp; omega) ?_)
      intro a2 c2 w3 hown hgrow hblk
      have S2 := hid (show OwnI w3 w1.heap.size (.slice a2 (k + 1) c2) (headL l fs s hd0 (k + 1)) ∧ Below w1.heap.size w1 w3 from
        ⟨by rw [HE.out]; exact hown, (bstep (bstep hh.out.2 HB2.out) (by go_grown)).grown hgrow (by have := hh.out.2.size; have := HB2.out.size; simp; omega) (fun q hq => (hh.out.1.lt q hq).1)⟩)
      clear hown hgrow hblk ho2
      go_wp2
      go_roundg (M - (k + 1))
      case rel => exact ⟨k + 1, _, _, by omega, rfl, by go_num, rfl, S2⟩
      case measure => omega
    · obtain rfl : k = M := by omega
      go_wp2
      go_ret
      exact ⟨_, _, rfl, hh.out.1.mono (by have := BA.out.size; omega), bstep BA.out (bstep HB1.out hh.out.2)⟩

end Go.Proofs.Ythhogblnndmenaa
