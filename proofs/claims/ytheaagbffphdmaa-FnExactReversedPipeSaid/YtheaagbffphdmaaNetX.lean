/-
  Networks: the nodes that are reached.
-/
import Derived.Test.YtheaagbffphdmaaNetW
import Derived.Test.YtheaagbffphdmaaNetI
set_option linter.unusedVariables false
set_option linter.unusedSimpArgs false
namespace Go.Proofs.Ytheaagbffphdmaa
open Go.RowKit

theorem s_l1Has (a : Option Addr) (n c : Nat) (x : Int) (l : List Int) (w : World) (h : IntsAt w a n l) (hn : n ≤ 1048576) :
    Calls Try.prog 105 #[.slice a n c, .int .i64 x] w fun e w' => e = .returned (.bool (decide (x ∈ l))) ∧ w = w' := by
  have H := hid h
  have HL := hid h.1
  clear h
  go_enter Try.func105, Try.ntmps105
  go_wp2
  go_loopg [5] n (fun g i wr => ∃ k : Nat, k ≤ n ∧ g = n - k ∧ i = .int .i64 k ∧ w = wr ∧ Hid (∀ j, j < k → l[j]?.getD 0 ≠ x))
  case atStart => exact ⟨0, Nat.zero_le _, rfl, rfl, rfl, hid (fun j hj => absurd hj (by omega))⟩
  case round =>
    obtain ⟨k, hk, rfl, rfl, rfl, hh⟩ := hrel
    by_cases hlt : k < n
    · obtain ⟨b, off, rfl, hbw, hcell⟩ := H.out.2 k hlt
      by_cases he : l[k]?.getD 0 = x
      · have E := hid (show true = decide (x ∈ l) by
          have : x ∈ l := he ▸ getD_mem' (k := k) (by have := HL.out; omega)
          simp [this])
        have ha : l[k]?.getD 0 ≤ x := by omega
        have hb : x ≤ l[k]?.getD 0 := by omega
        clear he
        go_wp2
        go_ret
        exact ⟨ret_bool E.out, rfl⟩
      · go_wp2
        go_roundg (n - (k + 1))
        case rel =>
          refine ⟨k + 1, by omega, rfl, by go_num, rfl, hid (fun j hj => ?_)⟩
          by_cases e : j = k
          · subst e; exact he
          · exact hh.out j (by omega)
        case measure => omega
    · obtain rfl : n = k := by omega
      have E := hid (show false = decide (x ∈ l) by
        have : x ∉ l := fun hm => by
          obtain ⟨j, hj, rfl⟩ := List.mem_iff_getElem.1 hm
          exact hh.out j (by have := HL.out; omega) (by simp [hj])
        simp [this])
      go_wp2
      go_ret
      exact ⟨ret_bool E.out, rfl⟩

/-- The first indices at which a row is not negative. -/
def nonneg (L : List Int) (k : Nat) : List Int := ((List.range k).filter fun v => decide (0 ≤ L[v]?.getD 0)).map fun v : Nat => (v : Int)
theorem nonneg_yes {L : List Int} {k : Nat} (h : 0 ≤ L[k]?.getD 0) : nonneg L (k + 1) = nonneg L k ++ [(k : Int)] := by simp [nonneg, List.range_succ, h]
theorem nonneg_no {L : List Int} {k : Nat} (h : ¬ 0 ≤ L[k]?.getD 0) : nonneg L (k + 1) = nonneg L k := by simp [nonneg, List.range_succ, h]
theorem nonneg_len (L : List Int) (k : Nat) : (nonneg L k).length ≤ k := by
  unfold nonneg
  rw [List.length_map]
  exact Nat.le_trans (List.length_filter_le _ _) (by simp)


theorem own_some {w : World} {B n c : Nat} {a : Option Addr} {l : List Int} (h : OwnI w B (.slice a n c) l) (hn : 0 < n) : ∃ g, a = some ⟨g, 0, none⟩ ∧ B ≤ g ∧ g < w.heap.size := by
  have hlt := h.lt
  have hl := h.len
  unfold OwnI at h
  rcases h.2 with ⟨h1, h0⟩ | ⟨g, cap, cur, h1, hB, hg, hnc, hm, hs, ht⟩
  · simp only [Value.slice.injEq] at h1
    omega
  · simp only [Value.slice.injEq] at h1
    obtain ⟨rfl, -, rfl⟩ := h1
    exact ⟨g, rfl, hlt g rfl⟩

set_option maxRecDepth 100000 in
set_option maxHeartbeats 2000000 in
theorem i_reachedFrom (M : Nat) (s : Int) (a : Option Addr) (n c : Nat) (l : List Pip) (w : World) (h : QAt w a n l) (hg : goodNet M l = true) (hs : 1 ≤ s ∧ s ≤ M) :
    Calls Try.prog 107 #[.agg #[.int .i64 M, .slice a n c], .int .i64 s] w fun e w' => ∃ a' c', e = .returned (.slice a' (nonneg (distL M l 0 s) (M + 1)).length c') ∧ OwnI w' w.heap.size (.slice a' (nonneg (distL M l 0 s) (M + 1)).length c') (nonneg (distL M l 0 s) (M + 1)) ∧ Below w.heap.size w w' := by
  have hM : M ≤ 8 := by have := (goodNet_get hg).1; omega
  have H := hid h
  have HG := hid hg
  clear h hg
  obtain ⟨D, hD⟩ : ∃ D, distL M l 0 s = D := ⟨_, rfl⟩
  rw [hD]
  have HDD := hid hD
  clear hD
  go_enter Try.func107, Try.ntmps107
  go_wp2_with fail
  refine (i_distances M s 0 _ _ _ l _ (H.out.below (by go_grown)) HG.out hs).mono ?_
  rintro e w1 ⟨ad, cd, rfl, hod, hb1⟩
  obtain ⟨gd, rfl, hgd1, hgd2⟩ := own_some hod (by omega)
  simp only [World.size_alloc] at hgd1 hod
  rw [HDD.out] at hod
  have HD := hid hod
  have HB1 := hid (bstep (by go_grown) hb1 : Below w.heap.size w w1)
  have HO := hid (show OwnI w1 w.heap.size (.slice (some ⟨w.heap.size + 1, 0, none⟩) (nonneg D 0).length 0) (nonneg D 0) from by
    have := ((OwnI.lit0 (w.alloc (.cells #[.int .i64 M, .slice a n c] 31))).below hb1).mono (B' := w.heap.size) (by simp)
    simpa [nonneg] using this)
  clear hod hb1
  go_wp2
  go_loopg [5, 13] (M + 1) (fun g o i wr => ∃ (k : Nat) (a' : Option Addr) (c' : Nat), k ≤ M + 1 ∧ g = M + 1 - k ∧ i = .int .i64 k ∧ o = .slice a' (nonneg D k).length c' ∧ Hid (OwnI wr w.heap.size (.slice a' (nonneg D k).length c') (nonneg D k) ∧ OwnI wr w.heap.size (.slice (some ⟨gd, 0, none⟩) (M + 1) cd) D ∧ Below w.heap.size w wr ∧ Value.ownBlock (.slice a' (nonneg D k).length c') ≠ some gd))
  case atStart =>
    refine ⟨0, some ⟨w.heap.size + 1, 0, none⟩, 0, Nat.zero_le _, rfl, rfl, rfl, hid ⟨HO.out, HD.out.mono (by omega), HB1.out, ?_⟩⟩
    simp [Value.ownBlock]
    omega
  case round =>
    obtain ⟨k, a', c', hk, rfl, rfl, rfl, hh⟩ := hrel
    have hlen := nonneg_len D k
    by_cases hlt : k < M + 1
    · have hcell := hh.out.2.1.cell (k := k) hlt
      have hgw : gd < wr.heap.size := (hh.out.2.1.lt _ rfl).2
      by_cases hp : 0 ≤ D[k]?.getD 0
      · have E := hid (nonneg_yes hp)
        go_wp2_with (at_builtin; refine wp_append_ints _ rfl _ _ rfl w.heap.size _ (nonneg D k) rfl (hh.out.1.alloc _) _ 1 1 [(k : Int)] rfl (IntsAt.single _ _) ((nonneg D k).length + 1) (by simp) (by omega) (by have := hh.out.2.2.1.size; simp; omega) ?_)
        intro a2 c2 w2 hown hgrow hblk
        have hl2 : (nonneg D k).length + 1 = (nonneg D (k + 1)).length := by rw [E.out]; simp
        rw [hl2] at hown hblk ⊢
        have S2 := hid (show OwnI w2 w.heap.size (.slice a2 (nonneg D (k + 1)).length c2) (nonneg D (k + 1)) ∧ OwnI w2 w.heap.size (.slice (some ⟨gd, 0, none⟩) (M + 1) cd) D ∧ Below w.heap.size w w2 ∧ Value.ownBlock (.slice a2 (nonneg D (k + 1)).length c2) ≠ some gd from by
          refine ⟨by rw [E.out] at hown ⊢; exact hown, (hh.out.2.1.alloc _).kept hgrow (.inr (fun e => hh.out.2.2.2 (by rw [← e]; rfl))), (bstep hh.out.2.2.1 (by go_grown)).grown hgrow (by have := hh.out.2.2.1.size; simp; omega) (fun q hq => (hh.out.1.lt q hq).1), ?_⟩
          rcases hblk with e | e
          · rw [e]; exact hh.out.2.2.2
          · rw [e]; simp; omega)
        clear hown hgrow hblk hl2
        go_wp2
        go_roundg (M + 1 - (k + 1))
        case rel => exact ⟨k + 1, _, _, by omega, rfl, by go_num, rfl, S2⟩
        case measure => omega
      · have E := hid (nonneg_no hp)
        go_wp2
        go_roundg (M + 1 - (k + 1))
        case rel => exact ⟨k + 1, a', c', by omega, rfl, by go_num, by rw [E.out], hid (by rw [E.out]; exact hh.out)⟩
        case measure => omega
    · obtain rfl : k = M + 1 := by omega
      go_wp2
      go_ret
      exact ⟨_, _, rfl, hh.out.1, hh.out.2.2.1⟩

end Go.Proofs.Ytheaagbffphdmaa
