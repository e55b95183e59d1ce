/-
  The flows of a tree: in the program and in the reference.
-/
import Derived.Test.YthhogblnndmenaaTreeA
import Derived.Test.YthhogblnndmenaaNetD
set_option linter.unusedVariables false
set_option linter.unusedSimpArgs false
namespace Go.Proofs.Ythhogblnndmenaa
open Go.RowKit

theorem tflow_dry {M : Nat} {l : List Pip} {s : Int} {ds : List Int} {i : Nat} (h : (distL M l (pp l i).1 s)[(pp l i).2.2.1.toNat]?.getD 0 < 0) : tflow M l s ds i = dsum (distL M l (pp l i).1 s) ds M := by simp [tflow, h]
theorem tflow_wet {M : Nat} {l : List Pip} {s : Int} {ds : List Int} {i : Nat} (h : ¬ (distL M l (pp l i).1 s)[(pp l i).2.2.1.toNat]?.getD 0 < 0) : tflow M l s ds i = -(dsum (distL M l (pp l i).1 s) ds M) := by simp [tflow, h]

set_option maxRecDepth 100000 in
set_option maxHeartbeats 4000000 in
theorem i_treeFlows (M : Nat) (s : Int) (a p : Option Addr) (n c d : Nat) (l : List Pip) (ds : List Int) (w : World) (h : QAt w a n l) (h' : IntsAt w p M ds) (hg : goodNet M l = true) (hs : 1 ≤ s ∧ s ≤ M) (hd : ∀ x ∈ ds, 0 ≤ x ∧ x ≤ 1000) :
    Calls Try.prog 52 #[.agg #[.int .i64 M, .slice a n c], .int .i64 s, .slice p M d] w fun e w' => ∃ a' c', e = .returned (.slice a' n c') ∧ OwnI w' w.heap.size (.slice a' n c') (tflows M l s ds n) ∧ Below w.heap.size w w' := by
  have hM : M ≤ 8 := by have := (goodNet_get hg).1; omega
  have hn : n ≤ 10 := by have := (goodNet_get hg).2.1; have := h.1; omega
  have HLN := hid h.1
  have HDL := hid h'.1
  have H := hid h
  have H' := hid h'
  have HG := hid hg
  have HS := hid hs
  have HD := hid hd
  clear h h' hg hs hd
  go_enter Try.func52, Try.ntmps52
  go_upto_region 1 with fail
  have BA := hid (by go_grown : Below w.heap.size w (w.alloc (.cells #[.int .i64 M, .slice a n c] 31)))
  have N0 := hid (cell_of_row _ _ 0 _ _ (0, 0) (heap_alloc_new w (.cells #[.int .i64 M, .slice a n c] 31)))
  have N1 := hid (cell_of_row _ _ 1 _ _ (0, 0) (heap_alloc_new w (.cells #[.int .i64 M, .slice a n c] 31)))
  have hzA : w.heap.size < (w.alloc (.cells #[.int .i64 M, .slice a n c] 31)).heap.size := by simp
  have n0 := N0.out
  have n1 := N1.out
  simp only [List.getElem?_toArray, List.getElem?_cons_zero, List.getElem?_cons_succ] at n0 n1
  generalize w.alloc (.cells #[.int .i64 M, .slice a n c] 31) = wA at *
  go_wp2
  go_loopg [7, 18] n (fun g o i wr => ∃ (k : Nat) (a' : Option Addr) (c' : Nat), k ≤ n ∧ g = n - k ∧ i = .int .i64 k ∧ o = .slice a' k c' ∧ Hid (OwnI wr wA.heap.size (.slice a' k c') (tflows M l s ds k) ∧ Below wA.heap.size wA wr))
  case atStart => exact ⟨0, _, 0, Nat.zero_le _, rfl, rfl, rfl, hid ⟨by simpa [tflows] using OwnI.lit0 wA, by go_grown⟩⟩
  case round =>
    obtain ⟨k, a', c', hk, rfl, rfl, rfl, hh⟩ := hrel
    obtain ⟨W0, hW0⟩ : ∃ W, W = wr := ⟨_, rfl⟩
    subst hW0
    have n0 := (hh.out.2.cell (p := ⟨w.heap.size, 0, none⟩) hzA).trans N0.out
    have n1 := (hh.out.2.cell (p := ⟨w.heap.size, 1, none⟩) hzA).trans N1.out
    have hz0 : w.heap.size < W0.heap.size := World.block_lt_of_cell? W0 _ n0
    by_cases hlt : k < n
    · obtain ⟨b0, off0, rfl, hbw, x0, x1, x2, x3⟩ := QAt.get (H.out.below (bstep BA.out hh.out.2)) k hlt
      have hkl : k < l.length := by have := HLN.out; omega
      have HP := hid (goodNet_pipe HG.out hkl)
      obtain ⟨t, ht⟩ : ∃ t : Nat, (pp l k).2.2.1 = t := ⟨(pp l k).2.2.1.toNat, by have := HP.out.2.2.1; omega⟩
      have ht1 : 1 ≤ t ∧ t ≤ M := by have := HP.out.2.2.1; omega
      rw [ht] at x2
      obtain ⟨D, hD⟩ : ∃ D, distL M l (pp l k).1 s = D := ⟨_, rfl⟩
      have HDD := hid hD
      have HT := hid (show (pp l k).2.2.1.toNat = t by omega)
      clear hD ht hkl
      go_wp2_with fail
      refine (i_distances M s (pp l k).1 _ _ _ l _ (H.out.below (bstep (bstep BA.out hh.out.2) (by go_grown))) HG.out HS.out).mono ?_
      rintro e w1 ⟨a1, c1, rfl, ho1, hb1⟩
      rw [HDD.out] at ho1
      obtain ⟨g1, rfl, -, hg1⟩ := own_some ho1 (by omega)
      have p2 : w1.cell? ⟨W0.heap.size, 2, none⟩ = some (.int .i64 t) := by rw [hb1.cell (p := ⟨W0.heap.size, 2, none⟩) (by simp), cell_of_row _ _ _ _ _ (0, 0) (heap_alloc_new _ _)]; rfl
      have HB1 := hid (bstep (by go_grown) hb1 : Below W0.heap.size W0 w1)
      have HO1 := hid ho1
      have hzp : W0.heap.size < w1.heap.size := World.block_lt_of_cell? w1 _ p2
      clear ho1 hb1 n0 n1 x0 x1 x2 x3 hbw hz0
      go_wp2
      go_loopg [11, 29] M (fun g sm i wr => ∃ j : Nat, j ≤ M ∧ g = M - j ∧ i = .int .i64 j ∧ sm = .int .i64 (dsum D ds j) ∧ w1 = wr)
      case atStart => exact ⟨0, Nat.zero_le _, rfl, rfl, rfl, rfl⟩
      case round =>
        obtain ⟨j, hj, rfl, rfl, rfl, rfl⟩ := hrel
        have hf := dsum_fit (D := D) HD.out j (by have := HDL.out; omega)
        by_cases hlj : j < M
        · obtain ⟨b1, off1, e1, hb1w, hc1⟩ := (H'.out.below (bstep (bstep BA.out hh.out.2) HB1.out)).2 j hlj
          subst e1
          have hd1 := HO1.out.cell (k := j + 1) (by omega)
          have hx := HD.out _ (getD_mem ds j (by have := HDL.out; omega))
          have hj0 : (0 : Int) ≤ (j : Int) + 1 := by omega
          have hj1 : (j : Int) + 1 < ((M + 1 : Nat) : Int) := by omega
          by_cases hp : D[j + 1]?.getD 0 < 0
          · have E := hid (dsum_yes (ds := ds) hp)
            go_wp2
            go_roundg (M - (j + 1))
            case rel => exact ⟨j + 1, by omega, rfl, by go_num, by rw [E.out], rfl⟩
            case measure => omega
          · have E := hid (dsum_no (ds := ds) hp)
            go_wp2
            go_roundg (M - (j + 1))
            case rel => exact ⟨j + 1, by omega, rfl, by go_num, by rw [E.out], rfl⟩
            case measure => omega
        · obtain rfl : j = M := by omega
          have hdt := HO1.out.cell (k := t) (by omega)
          have t1 : (0 : Int) ≤ (t : Int) := by omega
          have t2 : (t : Int) < ((j + 1 : Nat) : Int) := by omega
          by_cases hp : D[t]?.getD 0 < 0
          · have E := hid (show tflow j l s ds k = dsum D ds j from by rw [tflow_dry (by rw [HDD.out, HT.out]; exact hp), HDD.out])
            have hp2 : ¬ 0 ≤ D[t]?.getD 0 := by omega
            have ho2 := hh.out.1.below HB1.out
            go_wp2_with (at_builtin; refine wp_append_ints _ rfl _ _ rfl wA.heap.size _ (tflows _ l s ds k) rfl (ho2.alloc _) _ 1 1 [tflow _ l s ds k] rfl (by rw [E.out]; exact IntsAt.single _ _) (k + 1) (by simp [tflows_len]) (by omega) (by have := ho2.len; have := hh.out.2.size; have := HB1.out.size; simp; omega) ?_)
            intro a2 c2 w2 hown hgrow hblk
            have S2 := hid (show OwnI w2 wA.heap.size (.slice a2 (k + 1) c2) (tflows _ l s ds (k + 1)) ∧ Below wA.heap.size wA w2 from
              ⟨by rw [tflows_succ]; exact hown, (bstep (bstep hh.out.2 HB1.out) (by go_grown)).grown hgrow (by have := hh.out.2.size; have := HB1.out.size; simp; omega) (fun q hq => (hh.out.1.lt q hq).1)⟩)
            clear hown hgrow hblk ho2
            go_wp2
            go_roundg (n - (k + 1))
            case rel => exact ⟨k + 1, _, _, by omega, rfl, by go_num, rfl, S2⟩
            case measure => omega
          · have E := hid (show tflow j l s ds k = -(dsum D ds j) from by rw [tflow_wet (by rw [HDD.out, HT.out]; exact hp), HDD.out])
            have hp2 : 0 ≤ D[t]?.getD 0 := by omega
            have ho2 := hh.out.1.below HB1.out
            go_wp2_with (at_builtin; refine wp_append_ints _ rfl _ _ rfl wA.heap.size _ (tflows _ l s ds k) rfl (ho2.alloc _) _ 1 1 [tflow _ l s ds k] rfl (by rw [E.out]; exact IntsAt.single _ _) (k + 1) (by simp [tflows_len]) (by omega) (by have := ho2.len; have := hh.out.2.size; have := HB1.out.size; simp; omega) ?_)
            intro a2 c2 w2 hown hgrow hblk
            have S2 := hid (show OwnI w2 wA.heap.size (.slice a2 (k + 1) c2) (tflows _ l s ds (k + 1)) ∧ Below wA.heap.size wA w2 from
              ⟨by rw [tflows_succ]; exact hown, (bstep (bstep hh.out.2 HB1.out) (by go_grown)).grown hgrow (by have := hh.out.2.size; have := HB1.out.size; simp; omega) (fun q hq => (hh.out.1.lt q hq).1)⟩)
            clear hown hgrow hblk ho2
            go_wp2
            go_roundg (n - (k + 1))
            case rel => exact ⟨k + 1, _, _, by omega, rfl, by go_num, rfl, S2⟩
            case measure => omega
    · obtain rfl : k = n := by omega
      go_wp2
      go_ret
      exact ⟨_, _, rfl, hh.out.1.mono (by omega), bstep BA.out hh.out.2⟩

set_option maxRecDepth 100000 in
set_option maxHeartbeats 4000000 in
theorem s_l8TreeFlows (M : Nat) (s : Int) (a p : Option Addr) (n c d : Nat) (l : List Pip) (ds : List Int) (w : World) (h : QAt w a n l) (h' : IntsAt w p M ds) (hg : goodNet M l = true) (hs : 1 ≤ s ∧ s ≤ M) (hd : ∀ x ∈ ds, 0 ≤ x ∧ x ≤ 1000) (ht : treeB M l = true) (hc : n ≤ c) :
    Calls Try.prog 49 #[.agg #[.int .i64 M, .slice a n c], .int .i64 s, .slice p M d] w fun e w' => ∃ a' c', e = .returned (.slice a' n c') ∧ OwnI w' w.heap.size (.slice a' n c') (tflows M l s ds n) ∧ Below w.heap.size w w' := by
  have hM : M ≤ 8 := by have := (goodNet_get hg).1; omega
  have hn : n ≤ 10 := by have := (goodNet_get hg).2.1; have := h.1; omega
  have HLN := hid h.1
  have HDL := hid h'.1
  have H := hid h
  have H' := hid h'
  have HG := hid hg
  have HS := hid hs
  have HD := hid hd
  have HT := hid ht
  clear h h' hg hs hd ht
  go_enter Try.func49, Try.ntmps49
  go_upto_region 1 with fail
  have BA := hid (by go_grown : Below w.heap.size w (w.alloc (.cells #[.int .i64 M, .slice a n c] 31)))
  have N0 := hid (cell_of_row _ _ 0 _ _ (0, 0) (heap_alloc_new w (.cells #[.int .i64 M, .slice a n c] 31)))
  have N1 := hid (cell_of_row _ _ 1 _ _ (0, 0) (heap_alloc_new w (.cells #[.int .i64 M, .slice a n c] 31)))
  have hzA : w.heap.size < (w.alloc (.cells #[.int .i64 M, .slice a n c] 31)).heap.size := by simp
  have n0 := N0.out
  have n1 := N1.out
  simp only [List.getElem?_toArray, List.getElem?_cons_zero, List.getElem?_cons_succ] at n0 n1
  generalize w.alloc (.cells #[.int .i64 M, .slice a n c] 31) = wA at *
  go_wp2
  go_loopg [7, 8] n (fun g o i wr => ∃ (k : Nat) (a' : Option Addr) (c' : Nat), k ≤ n ∧ g = n - k ∧ i = .int .i64 k ∧ o = .slice a' k c' ∧ Hid (OwnI wr wA.heap.size (.slice a' k c') (tflows M l s ds k) ∧ Below wA.heap.size wA wr))
  case atStart => exact ⟨0, _, 0, Nat.zero_le _, rfl, rfl, rfl, hid ⟨by simpa [tflows] using OwnI.lit0 wA, by go_grown⟩⟩
  case round =>
    obtain ⟨k, a', c', hk, rfl, rfl, rfl, hh⟩ := hrel
    obtain ⟨W0, hW0⟩ : ∃ W, W = wr := ⟨_, rfl⟩
    subst hW0
    have n0 := (hh.out.2.cell (p := ⟨w.heap.size, 0, none⟩) hzA).trans N0.out
    have n1 := (hh.out.2.cell (p := ⟨w.heap.size, 1, none⟩) hzA).trans N1.out
    have hz0 : w.heap.size < W0.heap.size := World.block_lt_of_cell? W0 _ n0
    by_cases hlt : k < n
    · have hkl : k < l.length := by have := HLN.out; omega
      obtain ⟨L, hL⟩ : ∃ L, neg (distL M l (pp l k).1 s) (M + 1) = L := ⟨_, rfl⟩
      have HF := hid (show (pp l k).2.1 ∈ L ↔ ¬ (distL M l (pp l k).1 s)[(pp l k).2.2.1.toNat]?.getD 0 < 0 from by rw [← hL]; exact tree_from HG.out HT.out HS.out hkl)
      have HM := hid (show ∀ x ∈ L, 1 ≤ x ∧ x ≤ M from fun x hx => by
        rw [← hL, mem_neg] at hx
        obtain ⟨v, h1, h2, h3, h4⟩ := hx
        omega)
      have HSM := hid (show nsum ds L L.length = dsum (distL M l (pp l k).1 s) ds M from by rw [← hL]; exact nsum_all _ _ _)
      have hq8 : L.length ≤ M + 1 := by rw [← hL]; exact neg_len _ _
      go_wp2_with fail
      refine (s_l8Down M s k _ _ _ l _ (H.out.below (bstep BA.out hh.out.2)) HG.out hc hlt HS.out).mono ?_
      rintro e w1 ⟨a1, c1, rfl, ho1, hb1⟩
      rw [hL] at ho1 ⊢
      have HL := hid hL
      have HB1 := hid (hb1 : Below W0.heap.size W0 w1)
      have HO1 := hid ho1
      have m1 := (hb1.cell (p := ⟨w.heap.size, 1, none⟩) hz0).trans n1
      obtain ⟨q, hq⟩ : ∃ q, L.length = q := ⟨_, rfl⟩
      have HQ := hid hq
      rw [hq] at hq8 ⊢
      clear ho1 hb1 n0 n1 hL hq hkl
      have hz1 : w.heap.size < w1.heap.size := World.block_lt_of_cell? w1 _ m1
      go_wp2
      go_loopg [10, 11] q (fun g sm i wr => ∃ j : Nat, j ≤ q ∧ g = q - j ∧ i = .int .i64 j ∧ sm = .int .i64 (nsum ds L j) ∧ w1 = wr)
      case atStart => exact ⟨0, Nat.zero_le _, rfl, rfl, rfl, rfl⟩
      case round =>
        obtain ⟨j, hj, rfl, rfl, rfl, rfl⟩ := hrel
        have hf := nsum_fit (ds := ds) (L := L) HD.out j (by have := HQ.out; omega)
        by_cases hlj : j < q
        · have hx := HM.out _ (getD_mem L j (by have := HQ.out; omega))
          have E := hid (nsum_succ (ds := ds) (L := L) (k := j) (by have := HQ.out; omega))
          obtain ⟨b2, off2, e2, hb2w, hc2⟩ := HO1.out.at.2 j (by have := HQ.out; omega)
          subst e2
          obtain ⟨v, hv⟩ : ∃ v : Nat, L[j]?.getD 0 = (v : Int) + 1 := ⟨(L[j]?.getD 0).toNat - 1, by omega⟩
          have HV := hid hv
          rw [hv] at hc2 hx
          have hvM : v < M := by omega
          obtain ⟨b1, off1, e1, hb1w, hc1⟩ := (H'.out.below (bstep (bstep BA.out hh.out.2) HB1.out)).2 v hvM
          subst e1
          have hdv := HD.out _ (getD_mem ds v (by have := HDL.out; omega))
          have HE := hid (show nsum ds L (j + 1) = nsum ds L j + ds[v]?.getD 0 from by
            rw [E.out, HV.out]
            congr 2)
          have hv0 : (0 : Int) ≤ (v : Int) := by omega
          have hv1 : (v : Int) < (M : Int) := by omega
          clear hv E
          go_wp2
          go_roundg (q - (j + 1))
          case rel => exact ⟨j + 1, by omega, rfl, by go_num, by rw [HE.out], rfl⟩
          case measure => omega
        · obtain rfl : j = q := by omega
          have HSQ := hid (show nsum ds L j = dsum (distL M l (pp l k).1 s) ds M from by rw [← HQ.out]; exact HSM.out)
          obtain ⟨b0, off0, rfl, hbw, x0, x1, x2, x3⟩ := QAt.get (H.out.below (bstep (bstep BA.out hh.out.2) HB1.out)) k hlt
          by_cases hp : (distL M l (pp l k).1 s)[(pp l k).2.2.1.toNat]?.getD 0 < 0
          · have E := hid (show tflow M l s ds k = nsum ds L j from by rw [tflow_dry hp, HSQ.out])
            have FT := hid (show decide ((pp l k).2.1 ∈ L) = false by simp; exact fun h => by have := HF.out.1 h; omega)
            go_wp2_with fail
            refine (s_l1Has_is _ _ _ _ L _ (HO1.out.at.congr HQ.out rfl) (by omega) false FT.out).mono ?_
            rintro e _ ⟨rfl, rfl⟩
            have ho2 := hh.out.1.below HB1.out
            go_wp2_with (at_builtin; refine wp_append_ints _ rfl _ _ rfl wA.heap.size _ (tflows _ l s ds k) rfl (ho2.alloc _) _ 1 1 [tflow _ l s ds k] rfl (by rw [E.out]; exact IntsAt.single _ _) (k + 1) (by simp [tflows_len]) (by omega) (by have := ho2.len; have := hh.out.2.size; have := HB1.out.size; simp; omega) ?_)
            intro a2 c2 w2 hown hgrow hblk
            have S2 := hid (show OwnI w2 wA.heap.size (.slice a2 (k + 1) c2) (tflows _ l s ds (k + 1)) ∧ Below wA.heap.size wA w2 from
              ⟨by rw [tflows_succ]; exact hown, (bstep (bstep hh.out.2 HB1.out) (by go_grown)).grown hgrow (by have := hh.out.2.size; have := HB1.out.size; simp; omega) (fun q hq => (hh.out.1.lt q hq).1)⟩)
            clear hown hgrow hblk ho2
            go_wp2
            go_roundg (n - (k + 1))
            case rel => exact ⟨k + 1, _, _, by omega, rfl, by go_num, rfl, S2⟩
            case measure => omega
          · have E := hid (show tflow M l s ds k = -(nsum ds L j) from by rw [tflow_wet hp, HSQ.out])
            have FT := hid (show decide ((pp l k).2.1 ∈ L) = true by simp; exact HF.out.2 (by omega))
            go_wp2_with fail
            refine (s_l1Has_is _ _ _ _ L _ (HO1.out.at.congr HQ.out rfl) (by omega) true FT.out).mono ?_
            rintro e _ ⟨rfl, rfl⟩
            have ho2 := hh.out.1.below HB1.out
            go_wp2_with (at_builtin; refine wp_append_ints _ rfl _ _ rfl wA.heap.size _ (tflows _ l s ds k) rfl (ho2.alloc _) _ 1 1 [tflow _ l s ds k] rfl (by rw [E.out]; exact IntsAt.single _ _) (k + 1) (by simp [tflows_len]) (by omega) (by have := ho2.len; have := hh.out.2.size; have := HB1.out.size; simp; omega) ?_)
            intro a2 c2 w2 hown hgrow hblk
            have S2 := hid (show OwnI w2 wA.heap.size (.slice a2 (k + 1) c2) (tflows _ l s ds (k + 1)) ∧ Below wA.heap.size wA w2 from
              ⟨by rw [tflows_succ]; exact hown, (bstep (bstep hh.out.2 HB1.out) (by go_grown)).grown hgrow (by have := hh.out.2.size; have := HB1.out.size; simp; omega) (fun q hq => (hh.out.1.lt q hq).1)⟩)
            clear hown hgrow hblk ho2
            go_wp2
            go_roundg (n - (k + 1))
            case rel => exact ⟨k + 1, _, _, by omega, rfl, by go_num, rfl, S2⟩
            case measure => omega
    · obtain rfl : k = n := by omega
      go_wp2
      go_ret
      exact ⟨_, _, rfl, hh.out.1.mono (by omega), bstep BA.out hh.out.2⟩

end Go.Proofs.Ythhogblnndmenaa
