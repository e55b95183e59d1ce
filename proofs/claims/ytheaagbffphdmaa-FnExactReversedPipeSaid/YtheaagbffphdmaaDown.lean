/-
  The nodes of a network that are not connected with a node without a pipe: in the reference and in the program.
-/
import Derived.Test.YtheaagbffphdmaaWithout
import Derived.Test.YtheaagbffphdmaaReached
import Derived.Test.YtheaagbffphdmaaNetX
set_option linter.unusedVariables false
set_option linter.unusedSimpArgs false
namespace Go.Proofs.Ytheaagbffphdmaa
open Go.RowKit

/-- The first nodes, from 1 on, at which a row is negative. -/
def neg (L : List Int) (k : Nat) : List Int := ((List.range k).filter fun v => decide (0 < v) && decide (L[v]?.getD 0 < 0)).map fun v : Nat => (v : Int)
theorem neg_yes {L : List Int} {k : Nat} (h0 : 0 < k) (h : L[k]?.getD 0 < 0) : neg L (k + 1) = neg L k ++ [(k : Int)] := by simp [neg, List.range_succ, h, h0]
theorem neg_no {L : List Int} {k : Nat} (h : ¬ (0 < k ∧ L[k]?.getD 0 < 0)) : neg L (k + 1) = neg L k := by
  have : (decide (0 < k) && decide (L[k]?.getD 0 < 0)) = false := by simpa using h
  simp [neg, List.range_succ, this]
theorem neg_len (L : List Int) (k : Nat) : (neg L k).length ≤ k := by
  unfold neg
  rw [List.length_map]
  exact Nat.le_trans (List.length_filter_le _ _) (by simp)
theorem neg_one (L : List Int) : neg L 1 = [] := by simp [neg, List.range_succ]
theorem neg_reach {M : Nat} {l : List Pip} {wo s : Int} {k : Nat} (hk : k < M) : (k : Int) + 1 ∈ reachL M l wo s ↔ ¬ (distL M l wo s)[k + 1]?.getD 0 < 0 := by
  rw [to_reached (by omega), distL_at (by omega) (by omega)]
  have e : ((k + 1 : Nat) : Int) = (k : Int) + 1 := by omega
  rw [e]
  omega

set_option maxRecDepth 100000 in
set_option maxHeartbeats 2000000 in
theorem s_l8Down (M : Nat) (s : Int) (i : Nat) (a : Option Addr) (n c : Nat) (l : List Pip) (w : World) (h : QAt w a n l) (hg : goodNet M l = true) (hc : n ≤ c) (hi : i < n) (hs : 1 ≤ s ∧ s ≤ M) :
    Calls Try.prog 92 #[.agg #[.int .i64 M, .slice a n c], .int .i64 s, .int .i64 i] w fun e w' => ∃ a' c', e = .returned (.slice a' (neg (distL M l (pp l i).1 s) (M + 1)).length c') ∧ OwnI w' w.heap.size (.slice a' (neg (distL M l (pp l i).1 s) (M + 1)).length c') (neg (distL M l (pp l i).1 s) (M + 1)) ∧ Below w.heap.size w w' := by
  have hM : M ≤ 8 := by have := (goodNet_get hg).1; omega
  have hn : n ≤ 10 := by have := (goodNet_get hg).2.1; have := h.1; omega
  have hl := h.1
  obtain ⟨D, hD⟩ : ∃ D, distL M l (pp l i).1 s = D := ⟨_, rfl⟩
  obtain ⟨R, hR⟩ : ∃ R, reachL M (l.eraseIdx i) 0 s = R := ⟨_, rfl⟩
  have HR := hid hR
  have HM := hid (show ∀ k, k < M → ((k : Int) + 1 ∈ R ↔ ¬ D[k + 1]?.getD 0 < 0) from fun k hk => by
    rw [← hR, ← hD, reach_without hg (by omega)]
    exact neg_reach hk)
  rw [hD]
  have hrl : R.length ≤ 8 := by
    rw [← hR]
    have := reachL_len (N := (M : Int)) (l := l.eraseIdx i) (wo := 0) (s := s)
    omega
  have HG2 := hid (goodNet_sub (List.eraseIdx_sublist l i) hg)
  have H := hid h
  have HS := hid hs
  clear h hg hD hR hl hs
  go_enter Try.func92, Try.ntmps92
  go_wp2_with fail
  refine (s_l2Without M i _ _ _ l _ (H.out.below (by go_grown)) (by omega) hc hi).mono ?_
  rintro e w1 ⟨a1, c1, rfl, ho1, hb1⟩
  have HB1 := hid (bstep (by go_grown) hb1 : Below w.heap.size w w1)
  have n0 : w1.cell? ⟨w.heap.size, 0, none⟩ = some (.int .i64 M) := by rw [hb1.cell (p := ⟨w.heap.size, 0, none⟩) (by simp)]; rw [cell_of_row _ _ _ _ _ (0, 0) (heap_alloc_new _ _)]; rfl
  have HO1 := hid ho1
  clear hb1 ho1
  have hz1 : w.heap.size < w1.heap.size := World.block_lt_of_cell? w1 _ n0
  go_wp2_with fail
  refine (s_l2Reached M s _ _ _ (l.eraseIdx i) _ ((OwnS.at qf_len HO1.out).below (by go_grown)) HG2.out HS.out).mono ?_
  rintro e w2 ⟨g2, c2, rfl, ho2, hb2⟩
  rw [HR.out] at ho2 ⊢
  have HB2 := hid (bstep HB1.out hb2 : Below w.heap.size w w2)
  have N2 := hid ((hb2.cell (p := ⟨w.heap.size, 0, none⟩) hz1).trans n0)
  have hlt2 := (ho2.lt g2 rfl)
  have HO2 := hid ho2
  clear n0 ho2 hb2
  have n0 := N2.out
  have hz2 : w.heap.size < w2.heap.size := World.block_lt_of_cell? w2 _ n0
  have HO := hid (show OwnI (w2.alloc (.cells #[] 3)) w2.heap.size (.slice (some ⟨w2.heap.size, 0, none⟩) (neg D 1).length 0) (neg D 1) from by
    rw [neg_one]
    exact OwnI.lit0 w2)
  go_wp2
  go_loopg [8, 9] M (fun g o i wr => ∃ (k : Nat) (a' : Option Addr) (c' : Nat), k ≤ M ∧ g = M - k ∧ i = .int .i64 ((k : Int) + 1) ∧ o = .slice a' (neg D (k + 1)).length c' ∧ Hid (OwnI wr w2.heap.size (.slice a' (neg D (k + 1)).length c') (neg D (k + 1)) ∧ IntsAt wr (some ⟨g2, 0, none⟩) R.length R ∧ Below w2.heap.size w2 wr))
  case atStart => exact ⟨0, some ⟨w2.heap.size, 0, none⟩, 0, Nat.zero_le _, rfl, rfl, by rw [neg_one]; rfl, hid ⟨HO.out, HO2.out.at.below (by go_grown), by go_grown⟩⟩
  case round =>
    obtain ⟨k, a', c', hk, rfl, rfl, rfl, hh⟩ := hrel
    have hlen := neg_len D (k + 1)
    have n1 : wr.cell? ⟨w.heap.size, 0, none⟩ = some (.int .i64 M) := (hh.out.2.2.cell (p := ⟨w.heap.size, 0, none⟩) hz2).trans n0
    by_cases hlt : k < M
    · have hkm : (k : Int) + 1 ≤ (M : Int) := by omega
      by_cases hp : D[k + 1]?.getD 0 < 0
      · have E := hid (neg_yes (k := k + 1) (by omega) hp)
        have F := hid (show decide ((k : Int) + 1 ∈ R) = false by simp; exact fun h => by have := (HM.out k hlt).1 h; omega)
        clear hp
        go_wp2_with fail
        refine (s_l1Has_is _ _ _ _ R _ hh.out.2.1 (by omega) false F.out).mono ?_
        rintro e _ ⟨rfl, rfl⟩
        go_wp2_with (at_builtin; refine wp_append_ints _ rfl _ _ rfl w2.heap.size _ (neg D (k + 1)) rfl (hh.out.1.alloc _) _ 1 1 [(k : Int) + 1] rfl (IntsAt.single _ _) ((neg D (k + 1)).length + 1) (by simp) (by omega) (by have := hh.out.2.2.size; simp; omega) ?_)
        intro a2 c2 w3 hown hgrow hblk
        have e9 : ((k + 1 : Nat) : Int) = (k : Int) + 1 := by omega
        rw [e9] at E
        have hl2 : (neg D (k + 1)).length + 1 = (neg D (k + 1 + 1)).length := by rw [E.out]; simp
        rw [hl2] at hown hblk ⊢
        have S2 := hid (show OwnI w3 w2.heap.size (.slice a2 (neg D (k + 1 + 1)).length c2) (neg D (k + 1 + 1)) ∧ IntsAt w3 (some ⟨g2, 0, none⟩) R.length R ∧ Below w2.heap.size w2 w3 from by
          have hb3 : Below w2.heap.size w2 w3 := (bstep hh.out.2.2 (by go_grown)).grown hgrow (by have := hh.out.2.2.size; simp; omega) (fun q hq => (hh.out.1.lt q hq).1)
          exact ⟨by rw [E.out] at hown ⊢; exact hown, HO2.out.at.below hb3, hb3⟩)
        clear hown hgrow hblk hl2 n1
        go_wp2
        go_roundg (M - (k + 1))
        case rel => exact ⟨k + 1, _, _, by omega, rfl, by go_num, rfl, S2⟩
        case measure => omega
      · have E := hid (neg_no (L := D) (k := k + 1) (fun h => hp h.2))
        have F := hid (show decide ((k : Int) + 1 ∈ R) = true by simp; exact (HM.out k hlt).2 (by omega))
        clear hp
        go_wp2_with fail
        refine (s_l1Has_is _ _ _ _ R _ hh.out.2.1 (by omega) true F.out).mono ?_
        rintro e _ ⟨rfl, rfl⟩
        go_wp2
        go_roundg (M - (k + 1))
        case rel => exact ⟨k + 1, a', c', by omega, rfl, by go_num, by rw [E.out], hid (by rw [E.out]; exact hh.out)⟩
        case measure => omega
    · obtain rfl : k = M := by omega
      go_wp2
      go_ret
      exact ⟨_, _, rfl, hh.out.1.mono HB2.out.size, bstep HB2.out hh.out.2.2⟩

end Go.Proofs.Ytheaagbffphdmaa
