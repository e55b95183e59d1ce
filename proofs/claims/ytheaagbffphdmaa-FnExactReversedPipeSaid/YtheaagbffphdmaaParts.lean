/-
  Networks: the parts of a network, and rings and trees, in the program.
-/
import Derived.Test.YtheaagbffphdmaaReachA
set_option linter.unusedVariables false
set_option linter.unusedSimpArgs false
namespace Go.Proofs.Ytheaagbffphdmaa
open Go.RowKit

theorem Try.infoRow : (Try.prog.info? 25).map (fun i => (i.zero, i.size, i.bytes)) = some (some (.slice none 0 0), 1, 24) := by kernel_rfl

theorem cnt_yes {N : Int} {l : List Pip} {k : Nat} (h : (reachL N l 0 ((k : Int) + 1))[0]?.getD 0 = (k : Int) + 1) : cnt N l (k + 1) = cnt N l k + 1 := by
  conv => lhs; unfold cnt
  rw [if_pos h]
theorem cnt_no {N : Int} {l : List Pip} {k : Nat} (h : (reachL N l 0 ((k : Int) + 1))[0]?.getD 0 ≠ (k : Int) + 1) : cnt N l (k + 1) = cnt N l k := by
  conv => lhs; unfold cnt
  rw [if_neg h]

set_option maxRecDepth 100000 in
set_option maxHeartbeats 2000000 in
theorem i_networkParts (M : Nat) (a : Option Addr) (n c : Nat) (l : List Pip) (w : World) (h : QAt w a n l) (hg : goodNet M l = true) :
    Calls Try.prog 90 #[.agg #[.int .i64 M, .slice a n c]] w fun e w' => ∃ a' c', e = .returned (.slice a' (cnt M l M) c') ∧ Below w.heap.size w w' := by
  have hM : M ≤ 8 := by have := (goodNet_get hg).1; omega
  obtain ⟨i0, hi, hz0, hz1, hz2⟩ := info_parts Try.infoRow
  have HI := hid hi
  have HZ := hid hz0
  have HZ1 := hid hz1
  have HZ2 := hid hz2
  have H := hid h
  have HG := hid hg
  clear h hg hi hz0 hz1 hz2
  go_enter Try.func90, Try.ntmps90
  go_wp2
  go_loopg [3, 4] (M + 1) (fun g o i wr => ∃ (k : Nat) (a' : Option Addr) (c' : Nat), k ≤ M ∧ g = M + 1 - k ∧ i = .int .i64 ((k : Int) + 1) ∧ o = .slice a' (cnt M l k) c' ∧ Hid (∃ xs, wr.ownsRow (w.heap.size + 1) 25 1 (.slice a' (cnt M l k) c') (cnt M l k) xs) ∧ Hid (Below w.heap.size w wr ∧ wr.cell? ⟨w.heap.size, 0, none⟩ = some (.int .i64 M) ∧ wr.cell? ⟨w.heap.size, 1, none⟩ = some (.slice a n c)))
  case atStart =>
    refine ⟨0, some ⟨w.heap.size + 1, 0, none⟩, 0, Nat.zero_le _, by omega, rfl, rfl, hid ⟨[], ?_⟩, hid ⟨by go_grown, ?_, ?_⟩⟩
    · have := World.ownsRow_lit (base := w.heap.size + 1) (e := 25) (size := 1) (w.alloc (.cells #[.int .i64 M, .slice a n c] 31)) #[] 0 (by simp) (by decide) rfl
      rw [show cnt (M : Int) l 0 = 0 from rfl]
      simpa using this
    · rw [cell_of_row _ _ _ _ _ (0, 0) (mid_new w _ _ _ rfl)]; rfl
    · rw [cell_of_row _ _ _ _ _ (0, 0) (mid_new w _ _ _ rfl)]; rfl
  case round =>
    obtain ⟨k, a', c', hk, rfl, rfl, rfl, ho, hh⟩ := hrel
    obtain ⟨hb, n0, n1⟩ := hh.out
    have hz0 : w.heap.size < wr.heap.size := World.block_lt_of_cell? wr _ n0
    have hcl := cnt_le M l k
    have HB := hid hb
    clear hb
    by_cases hlt : k < M
    · have hkm : (k : Int) + 1 ≤ (M : Int) := by omega
      go_wp2_with fail
      refine (i_reachedFrom M ((k : Int) + 1) _ _ _ l _ (H.out.below HB.out) HG.out ⟨by omega, by omega⟩).mono ?_
      rintro e w1 ⟨a1, c1, rfl, ho1, hb1⟩
      have E := hid (show nonneg (distL M l 0 ((k : Int) + 1)) (M + 1) = reachL M l 0 ((k : Int) + 1) from rfl)
      rw [E.out] at ho1 ⊢
      have hp := reachL_pos (l := l) (s := (k : Int) + 1) HG.out ⟨by omega, by omega⟩
      have hl9 := reachL_len (N := (M : Int)) (l := l) (wo := 0) (s := (k : Int) + 1)
      obtain ⟨g1, rfl, hg1, hg2⟩ := own_some ho1 hp
      have hcell := ho1.cell (k := 0) hp
      have HO1 := hid ho1
      have S1 := hid (show Below w.heap.size w w1 ∧ w1.cell? ⟨w.heap.size, 0, none⟩ = some (.int .i64 M) ∧ w1.cell? ⟨w.heap.size, 1, none⟩ = some (.slice a n c) from ⟨bstep HB.out hb1, by rw [hb1.cell (p := ⟨w.heap.size, 0, none⟩) hz0]; exact n0, by rw [hb1.cell (p := ⟨w.heap.size, 1, none⟩) hz0]; exact n1⟩)
      have O1 : Hid (∃ xs, w1.ownsRow (w.heap.size + 1) 25 1 (.slice a' (cnt M l k) c') (cnt M l k) xs) := hid (let ⟨xs, hx⟩ := ho.out; ⟨xs, World.ownsRow.kept hx (grown_of_below hb1 none) (by cases hq : Value.ownBlock (.slice a' (cnt M l k) c') <;> simp)⟩)
      clear ho1 ho hb1 n0 n1
      obtain ⟨R, hR⟩ : ∃ R, reachL M l 0 ((k : Int) + 1) = R := ⟨_, rfl⟩
      have HR := hid hR
      rw [hR] at hcell hp hl9 ⊢
      clear hR
      obtain ⟨x0, hx0⟩ : ∃ x0, R[0]?.getD 0 = x0 := ⟨_, rfl⟩
      obtain ⟨r0, hr0⟩ : ∃ r0, R.length = r0 := ⟨_, rfl⟩
      rw [hx0] at hcell
      rw [hr0] at hp hl9 ⊢
      have HX0 := hid hx0
      clear hx0 hr0
      by_cases he : x0 = (k : Int) + 1
      · have EC := hid (cnt_yes (N := (M : Int)) (l := l) (k := k) (by rw [HR.out, HX0.out]; exact he))
        have he1 : x0 ≤ (k : Int) + 1 := by omega
        have he2 : (k : Int) + 1 ≤ x0 := by omega
        clear he
        go_wp2_with (at_builtin; refine wp_append_cells _ rfl _ _ _ rfl (w.heap.size + 1) 25 i0 (.slice none 0 0) 1 24 Try.underlying80 HI.out HZ.out HZ1.out HZ2.out rfl (by decide) (.slice a' (cnt M l k) c') (cnt M l k) (Classical.choose O1.out) rfl ((Classical.choose_spec O1.out).alloc _) (some ⟨w1.heap.size, 0, none⟩) 1 1 [.slice (some ⟨g1, 0, none⟩) r0 c1] rfl ⟨rfl, by simp, fun ad had j u hu => by cases had; exact World.news_of_block (cs := #[.slice (some ⟨g1, 0, none⟩) r0 c1]) (t := 25) (fr := (0, 0)) (heap_alloc_new w1 _) j u hu, by simp [Value.oneCell']⟩ (by unfold maxLen; omega) (by omega) (by have := S1.out.1.size; simp; omega) ?_)
        intro v9 w9 hown hgrow hblk
        obtain ⟨g9, c9, rfl, hg9, hg9w⟩ := hown.form (by omega)
        have S9 := hid (show Below w.heap.size w w9 ∧ w9.cell? ⟨w.heap.size, 0, none⟩ = some (.int .i64 M) ∧ w9.cell? ⟨w.heap.size, 1, none⟩ = some (.slice a n c) from by
          have hz1 : w.heap.size < w1.heap.size := World.block_lt_of_cell? w1 _ S1.out.2.1
          have hne : ∀ q, Value.ownBlock (.slice a' (cnt M l k) c') = some q → w.heap.size + 1 ≤ q := fun q hq => (World.ownsRow.lt (Classical.choose_spec O1.out) q hq).1
          have hne0 : some w.heap.size ≠ Value.ownBlock (.slice a' (cnt M l k) c') := fun e => by have := hne _ e.symm; omega
          have hk0 := bcell ((Below.refl w1.heap.size w1).alloc (Nat.le_refl _) (.cells #[.slice (some ⟨g1, 0, none⟩) r0 c1] 25))
          refine ⟨(S1.out.1.alloc S1.out.1.size _).grown hgrow (by simp; omega) (fun q hq => by have := hne q hq; omega), ?_, ?_⟩
          · rw [hgrow.cell_far _ (by simp; omega) hne0, hk0.1 _ _ hz1]; exact S1.out.2.1
          · rw [hgrow.cell_far _ (by simp; omega) hne0, hk0.1 _ _ hz1]; exact S1.out.2.2)
        have O9 : Hid (∃ xs, w9.ownsRow (w.heap.size + 1) 25 1 (.slice (some ⟨g9, 0, none⟩) (cnt M l (k + 1)) c9) (cnt M l (k + 1)) xs) := hid (by rw [EC.out]; exact ⟨_, hown⟩)
        clear hown hgrow hblk
        go_wp2
        go_roundg (M + 1 - (k + 1))
        case rel => exact ⟨k + 1, some ⟨g9, 0, none⟩, c9, by omega, rfl, by go_num, by rw [EC.out], O9, S9⟩
        case measure => omega
      · have EC := hid (cnt_no (N := (M : Int)) (l := l) (k := k) (by rw [HR.out, HX0.out]; exact he))
        go_wp2
        go_roundg (M + 1 - (k + 1))
        case rel => exact ⟨k + 1, a', c', by omega, rfl, by go_num, by rw [EC.out], by rw [EC.out]; exact O1, S1⟩
        case measure => omega
    · obtain rfl : k = M := by omega
      go_wp2
      go_ret
      exact ⟨_, _, rfl, HB.out⟩

end Go.Proofs.Ytheaagbffphdmaa
