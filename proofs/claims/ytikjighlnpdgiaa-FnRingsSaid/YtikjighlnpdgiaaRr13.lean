/-
  Texts of this claim, joined: TreeW, Steps, Way, Along, HeadS.
-/
import Derived.Test.YtikjighlnpdgiaaRr11
import Derived.Test.YtikjighlnpdgiaaRr12
/-
  The flows of a tree: in the program and in the reference.
-/
set_option linter.unusedVariables false
set_option linter.unusedSimpArgs false
namespace Go.Proofs.Ytikjighlnpdgiaa
open Go.RowKit

theorem tflow_dry {M : Nat} {l : List Pip} {s : Int} {ds : List Int} {i : Nat} (h : (distL M l (pp l i).1 s)[(pp l i).2.2.1.toNat]?.getD 0 < 0) : tflow M l s ds i = dsum (distL M l (pp l i).1 s) ds M := by simp [tflow, h]
theorem tflow_wet {M : Nat} {l : List Pip} {s : Int} {ds : List Int} {i : Nat} (h : ¬ (distL M l (pp l i).1 s)[(pp l i).2.2.1.toNat]?.getD 0 < 0) : tflow M l s ds i = -(dsum (distL M l (pp l i).1 s) ds M) := by simp [tflow, h]

set_option maxRecDepth 100000 in
set_option maxHeartbeats 4000000 in
theorem i_treeFlows (M : Nat) (s : Int) (a p : Option Addr) (n c d : Nat) (l : List Pip) (ds : List Int) (w : World) (h : QAt w a n l) (h' : IntsAt w p M ds) (hg : goodNet M l = true) (hs : 1 ≤ s ∧ s ≤ M) (hd : ∀ x ∈ ds, 0 ≤ x ∧ x ≤ 1000) :
    Calls Try.prog 49 #[.agg #[.int .i64 M, .slice a n c], .int .i64 s, .slice p M d] w fun e w' => ∃ a' c', e = .returned (.slice a' n c') ∧ OwnI w' w.heap.size (.slice a' n c') (tflows M l s ds n) ∧ Below w.heap.size w w' := by
  have hM : M ≤ 8 := by have := (goodNet_get hg).1; omega
  have hn : n ≤ 10 := by have := (goodNet_get hg).2.1; have := h.1; omega
  have HLN := hid h.1
  have HDL := hid h'.1
  have H := hid h
  have H' := hid h'
  have HG := hid hg
  have HS := hid hs
  have HD := hid hd
  clear h h' hg hs hd
  go_enter Try.func49, Try.ntmps49
  go_upto_region 1 with fail
  have BA := hid (by go_grown : Below w.heap.size w (w.alloc (.cells #[.int .i64 M, .slice a n c] 31)))
  have N0 := hid (cell_of_row _ _ 0 _ _ (0, 0) (heap_alloc_new w (.cells #[.int .i64 M, .slice a n c] 31)))
  have N1 := hid (cell_of_row _ _ 1 _ _ (0, 0) (heap_alloc_new w (.cells #[.int .i64 M, .slice a n c] 31)))
  have hzA : w.heap.size < (w.alloc (.cells #[.int .i64 M, .slice a n c] 31)).heap.size := by simp
  have n0 := N0.out
  have n1 := N1.out
  simp only [List.getElem?_toArray, List.getElem?_cons_zero, List.getElem?_cons_succ] at n0 n1
  generalize w.alloc (.cells #[.int .i64 M, .slice a n c] 31) = wA at *
  go_wp2
  go_loopg [7, 18] n (fun g o i wr => ∃ (k : Nat) (a' : Option Addr) (c' : Nat), k ≤ n ∧ g = n - k ∧ i = .int .i64 k ∧ o = .slice a' k c' ∧ Hid (OwnI wr wA.heap.size (.slice a' k c') (tflows M l s ds k) ∧ Below wA.heap.size wA wr))
  case atStart => exact ⟨0, _, 0, Nat.zero_le _, rfl, rfl, rfl, hid ⟨by simpa [tflows] using OwnI.lit0 wA, by go_grown⟩⟩
  case round =>
    obtain ⟨k, a', c', hk, rfl, rfl, rfl, hh⟩ := hrel
    obtain ⟨W0, hW0⟩ : ∃ W, W = wr := ⟨_, rfl⟩
    subst hW0
    have n0 := (hh.out.2.cell (p := ⟨w.heap.size, 0, none⟩) hzA).trans N0.out
    have n1 := (hh.out.2.cell (p := ⟨w.heap.size, 1, none⟩) hzA).trans N1.out
    have hz0 : w.heap.size < W0.heap.size := World.block_lt_of_cell? W0 _ n0
    by_cases hlt : k < n
    · obtain ⟨b0, off0, rfl, hbw, x0, x1, x2, x3⟩ := QAt.get (H.out.below (bstep BA.out hh.out.2)) k hlt
      have hkl : k < l.length := by have := HLN.out; omega
      have HP := hid (goodNet_pipe HG.out hkl)
      obtain ⟨t, ht⟩ : ∃ t : Nat, (pp l k).2.2.1 = t := ⟨(pp l k).2.2.1.toNat, by have := HP.out.2.2.1; omega⟩
      have ht1 : 1 ≤ t ∧ t ≤ M := by have := HP.out.2.2.1; omega
      rw [ht] at x2
      obtain ⟨D, hD⟩ : ∃ D, distL M l (pp l k).1 s = D := ⟨_, rfl⟩
      have HDD := hid hD
      have HT := hid (show (pp l k).2.2.1.toNat = t by omega)
      clear hD ht hkl
      go_wp2_with fail
      refine (i_distances M s (pp l k).1 _ _ _ l _ (H.out.below (bstep (bstep BA.out hh.out.2) (by go_grown))) HG.out HS.out).mono ?_
      rintro e w1 ⟨a1, c1, rfl, ho1, hb1⟩
      rw [HDD.out] at ho1
      obtain ⟨g1, rfl, -, hg1⟩ := own_some ho1 (by omega)
      have p2 : w1.cell? ⟨W0.heap.size, 2, none⟩ = some (.int .i64 t) := by rw [hb1.cell (p := ⟨W0.heap.size, 2, none⟩) (by simp), cell_of_row _ _ _ _ _ (0, 0) (heap_alloc_new _ _)]; rfl
      have HB1 := hid (bstep (by go_grown) hb1 : Below W0.heap.size W0 w1)
      have HO1 := hid ho1
      have hzp : W0.heap.size < w1.heap.size := World.block_lt_of_cell? w1 _ p2
      clear ho1 hb1 n0 n1 x0 x1 x2 x3 hbw hz0
      go_wp2
      go_loopg [11, 29] M (fun g sm i wr => ∃ j : Nat, j ≤ M ∧ g = M - j ∧ i = .int .i64 j ∧ sm = .int .i64 (dsum D ds j) ∧ w1 = wr)
      case atStart => exact ⟨0, Nat.zero_le _, rfl, rfl, rfl, rfl⟩
      case round =>
        obtain ⟨j, hj, rfl, rfl, rfl, rfl⟩ := hrel
        have hf := dsum_fit (D := D) HD.out j (by have := HDL.out; omega)
        by_cases hlj : j < M
        · obtain ⟨b1, off1, e1, hb1w, hc1⟩ := (H'.out.below (bstep (bstep BA.out hh.out.2) HB1.out)).2 j hlj
          subst e1
          have hd1 := HO1.out.cell (k := j + 1) (by omega)
          have hx := HD.out _ (getD_mem ds j (by have := HDL.out; omega))
          have hj0 : (0 : Int) ≤ (j : Int) + 1 := by omega
          have hj1 : (j : Int) + 1 < ((M + 1 : Nat) : Int) := by omega
          by_cases hp : D[j + 1]?.getD 0 < 0
          · have E := hid (dsum_yes (ds := ds) hp)
            go_wp2
            go_roundg (M - (j + 1))
            case rel => exact ⟨j + 1, by omega, rfl, by go_num, by rw [E.out], rfl⟩
            case measure => omega
          · have E := hid (dsum_no (ds := ds) hp)
            go_wp2
            go_roundg (M - (j + 1))
            case rel => exact ⟨j + 1, by omega, rfl, by go_num, by rw [E.out], rfl⟩
            case measure => omega
        · obtain rfl : j = M := by omega
          have hdt := HO1.out.cell (k := t) (by omega)
          have t1 : (0 : Int) ≤ (t : Int) := by omega
          have t2 : (t : Int) < ((j + 1 : Nat) : Int) := by omega
          by_cases hp : D[t]?.getD 0 < 0
          · have E := hid (show tflow j l s ds k = dsum D ds j from by rw [tflow_dry (by rw [HDD.out, HT.out]; exact hp), HDD.out])
            have hp2 : ¬ 0 ≤ D[t]?.getD 0 := by omega
            have ho2 := hh.out.1.below HB1.out
            go_wp2_with (at_builtin; refine wp_append_ints _ rfl _ _ rfl wA.heap.size _ (tflows _ l s ds k) rfl (ho2.alloc _) _ 1 1 [tflow _ l s ds k] rfl (by rw [E.out]; exact IntsAt.single _ _) (k + 1) (by simp [tflows_len]) (by omega) (by have := ho2.len; have := hh.out.2.size; have := HB1.out.size; simp; omega) ?_)
            intro a2 c2 w2 hown hgrow hblk
            have S2 := hid (show OwnI w2 wA.heap.size (.slice a2 (k + 1) c2) (tflows _ l s ds (k + 1)) ∧ Below wA.heap.size wA w2 from
              ⟨by rw [tflows_succ]; exact hown, (bstep (bstep hh.out.2 HB1.out) (by go_grown)).grown hgrow (by have := hh.out.2.size; have := HB1.out.size; simp; omega) (fun q hq => (hh.out.1.lt q hq).1)⟩)
            clear hown hgrow hblk ho2
            go_wp2
            go_roundg (n - (k + 1))
            case rel => exact ⟨k + 1, _, _, by omega, rfl, by go_num, rfl, S2⟩
            case measure => omega
          · have E := hid (show tflow j l s ds k = -(dsum D ds j) from by rw [tflow_wet (by rw [HDD.out, HT.out]; exact hp), HDD.out])
            have hp2 : 0 ≤ D[t]?.getD 0 := by omega
            have ho2 := hh.out.1.below HB1.out
            go_wp2_with (at_builtin; refine wp_append_ints _ rfl _ _ rfl wA.heap.size _ (tflows _ l s ds k) rfl (ho2.alloc _) _ 1 1 [tflow _ l s ds k] rfl (by rw [E.out]; exact IntsAt.single _ _) (k + 1) (by simp [tflows_len]) (by omega) (by have := ho2.len; have := hh.out.2.size; have := HB1.out.size; simp; omega) ?_)
            intro a2 c2 w2 hown hgrow hblk
            have S2 := hid (show OwnI w2 wA.heap.size (.slice a2 (k + 1) c2) (tflows _ l s ds (k + 1)) ∧ Below wA.heap.size wA w2 from
              ⟨by rw [tflows_succ]; exact hown, (bstep (bstep hh.out.2 HB1.out) (by go_grown)).grown hgrow (by have := hh.out.2.size; have := HB1.out.size; simp; omega) (fun q hq => (hh.out.1.lt q hq).1)⟩)
            clear hown hgrow hblk ho2
            go_wp2
            go_roundg (n - (k + 1))
            case rel => exact ⟨k + 1, _, _, by omega, rfl, by go_num, rfl, S2⟩
            case measure => omega
    · obtain rfl : k = n := by omega
      go_wp2
      go_ret
      exact ⟨_, _, rfl, hh.out.1.mono (by omega), bstep BA.out hh.out.2⟩

set_option maxRecDepth 100000 in
set_option maxHeartbeats 4000000 in
theorem s_l8TreeFlows (M : Nat) (s : Int) (a p : Option Addr) (n c d : Nat) (l : List Pip) (ds : List Int) (w : World) (h : QAt w a n l) (h' : IntsAt w p M ds) (hg : goodNet M l = true) (hs : 1 ≤ s ∧ s ≤ M) (hd : ∀ x ∈ ds, 0 ≤ x ∧ x ≤ 1000) (ht : treeB M l = true) (hc : n ≤ c) :
    Calls Try.prog 35 #[.agg #[.int .i64 M, .slice a n c], .int .i64 s, .slice p M d] w fun e w' => ∃ a' c', e = .returned (.slice a' n c') ∧ OwnI w' w.heap.size (.slice a' n c') (tflows M l s ds n) ∧ Below w.heap.size w w' := by
  have hM : M ≤ 8 := by have := (goodNet_get hg).1; omega
  have hn : n ≤ 10 := by have := (goodNet_get hg).2.1; have := h.1; omega
  have HLN := hid h.1
  have HDL := hid h'.1
  have H := hid h
  have H' := hid h'
  have HG := hid hg
  have HS := hid hs
  have HD := hid hd
  have HT := hid ht
  clear h h' hg hs hd ht
  go_enter Try.func35, Try.ntmps35
  go_upto_region 1 with fail
  have BA := hid (by go_grown : Below w.heap.size w (w.alloc (.cells #[.int .i64 M, .slice a n c] 31)))
  have N0 := hid (cell_of_row _ _ 0 _ _ (0, 0) (heap_alloc_new w (.cells #[.int .i64 M, .slice a n c] 31)))
  have N1 := hid (cell_of_row _ _ 1 _ _ (0, 0) (heap_alloc_new w (.cells #[.int .i64 M, .slice a n c] 31)))
  have hzA : w.heap.size < (w.alloc (.cells #[.int .i64 M, .slice a n c] 31)).heap.size := by simp
  have n0 := N0.out
  have n1 := N1.out
  simp only [List.getElem?_toArray, List.getElem?_cons_zero, List.getElem?_cons_succ] at n0 n1
  generalize w.alloc (.cells #[.int .i64 M, .slice a n c] 31) = wA at *
  go_wp2
  go_loopg [7, 8] n (fun g o i wr => ∃ (k : Nat) (a' : Option Addr) (c' : Nat), k ≤ n ∧ g = n - k ∧ i = .int .i64 k ∧ o = .slice a' k c' ∧ Hid (OwnI wr wA.heap.size (.slice a' k c') (tflows M l s ds k) ∧ Below wA.heap.size wA wr))
  case atStart => exact ⟨0, _, 0, Nat.zero_le _, rfl, rfl, rfl, hid ⟨by simpa [tflows] using OwnI.lit0 wA, by go_grown⟩⟩
  case round =>
    obtain ⟨k, a', c', hk, rfl, rfl, rfl, hh⟩ := hrel
    obtain ⟨W0, hW0⟩ : ∃ W, W = wr := ⟨_, rfl⟩
    subst hW0
    have n0 := (hh.out.2.cell (p := ⟨w.heap.size, 0, none⟩) hzA).trans N0.out
    have n1 := (hh.out.2.cell (p := ⟨w.heap.size, 1, none⟩) hzA).trans N1.out
    have hz0 : w.heap.size < W0.heap.size := World.block_lt_of_cell? W0 _ n0
    by_cases hlt : k < n
    · have hkl : k < l.length := by have := HLN.out; omega
      obtain ⟨L, hL⟩ : ∃ L, neg (distL M l (pp l k).1 s) (M + 1) = L := ⟨_, rfl⟩
      have HF := hid (show (pp l k).2.1 ∈ L ↔ ¬ (distL M l (pp l k).1 s)[(pp l k).2.2.1.toNat]?.getD 0 < 0 from by rw [← hL]; exact tree_from HG.out HT.out HS.out hkl)
      have HM := hid (show ∀ x ∈ L, 1 ≤ x ∧ x ≤ M from fun x hx => by
        rw [← hL, mem_neg] at hx
        obtain ⟨v, h1, h2, h3, h4⟩ := hx
        omega)
      have HSM := hid (show nsum ds L L.length = dsum (distL M l (pp l k).1 s) ds M from by rw [← hL]; exact nsum_all _ _ _)
      have hq8 : L.length ≤ M + 1 := by rw [← hL]; exact neg_len _ _
      go_wp2_with fail
      refine (s_l8Down M s k _ _ _ l _ (H.out.below (bstep BA.out hh.out.2)) HG.out hc hlt HS.out).mono ?_
      rintro e w1 ⟨a1, c1, rfl, ho1, hb1⟩
      rw [hL] at ho1 ⊢
      have HL := hid hL
      have HB1 := hid (hb1 : Below W0.heap.size W0 w1)
      have HO1 := hid ho1
      have m1 := (hb1.cell (p := ⟨w.heap.size, 1, none⟩) hz0).trans n1
      obtain ⟨q, hq⟩ : ∃ q, L.length = q := ⟨_, rfl⟩
      have HQ := hid hq
      rw [hq] at hq8 ⊢
      clear ho1 hb1 n0 n1 hL hq hkl
      have hz1 : w.heap.size < w1.heap.size := World.block_lt_of_cell? w1 _ m1
      go_wp2
      go_loopg [10, 11] q (fun g sm i wr => ∃ j : Nat, j ≤ q ∧ g = q - j ∧ i = .int .i64 j ∧ sm = .int .i64 (nsum ds L j) ∧ w1 = wr)
      case atStart => exact ⟨0, Nat.zero_le _, rfl, rfl, rfl, rfl⟩
      case round =>
        obtain ⟨j, hj, rfl, rfl, rfl, rfl⟩ := hrel
        have hf := nsum_fit (ds := ds) (L := L) HD.out j (by have := HQ.out; omega)
        by_cases hlj : j < q
        · have hx := HM.out _ (getD_mem L j (by have := HQ.out; omega))
          have E := hid (nsum_succ (ds := ds) (L := L) (k := j) (by have := HQ.out; omega))
          obtain ⟨b2, off2, e2, hb2w, hc2⟩ := HO1.out.at.2 j (by have := HQ.out; omega)
          subst e2
          obtain ⟨v, hv⟩ : ∃ v : Nat, L[j]?.getD 0 = (v : Int) + 1 := ⟨(L[j]?.getD 0).toNat - 1, by omega⟩
          have HV := hid hv
          rw [hv] at hc2 hx
          have hvM : v < M := by omega
          obtain ⟨b1, off1, e1, hb1w, hc1⟩ := (H'.out.below (bstep (bstep BA.out hh.out.2) HB1.out)).2 v hvM
          subst e1
          have hdv := HD.out _ (getD_mem ds v (by have := HDL.out; omega))
          have HE := hid (show nsum ds L (j + 1) = nsum ds L j + ds[v]?.getD 0 from by
            rw [E.out, HV.out]
            congr 2)
          have hv0 : (0 : Int) ≤ (v : Int) := by omega
          have hv1 : (v : Int) < (M : Int) := by omega
          clear hv E
          go_wp2
          go_roundg (q - (j + 1))
          case rel => exact ⟨j + 1, by omega, rfl, by go_num, by rw [HE.out], rfl⟩
          case measure => omega
        · obtain rfl : j = q := by omega
          have HSQ := hid (show nsum ds L j = dsum (distL M l (pp l k).1 s) ds M from by rw [← HQ.out]; exact HSM.out)
          obtain ⟨b0, off0, rfl, hbw, x0, x1, x2, x3⟩ := QAt.get (H.out.below (bstep (bstep BA.out hh.out.2) HB1.out)) k hlt
          by_cases hp : (distL M l (pp l k).1 s)[(pp l k).2.2.1.toNat]?.getD 0 < 0
          · have E := hid (show tflow M l s ds k = nsum ds L j from by rw [tflow_dry hp, HSQ.out])
            have FT := hid (show decide ((pp l k).2.1 ∈ L) = false by simp; exact fun h => by have := HF.out.1 h; omega)
            go_wp2_with fail
            refine (s_l1Has_is _ _ _ _ L _ (HO1.out.at.congr HQ.out rfl) (by omega) false FT.out).mono ?_
            rintro e _ ⟨rfl, rfl⟩
            have ho2 := hh.out.1.below HB1.out
            go_wp2_with (at_builtin; refine wp_append_ints _ rfl _ _ rfl wA.heap.size _ (tflows _ l s ds k) rfl (ho2.alloc _) _ 1 1 [tflow _ l s ds k] rfl (by rw [E.out]; exact IntsAt.single _ _) (k + 1) (by simp [tflows_len]) (by omega) (by have := ho2.len; have := hh.out.2.size; have := HB1.out.size; simp; omega) ?_)
            intro a2 c2 w2 hown hgrow hblk
            have S2 := hid (show OwnI w2 wA.heap.size (.slice a2 (k + 1) c2) (tflows _ l s ds (k + 1)) ∧ Below wA.heap.size wA w2 from
              ⟨by rw [tflows_succ]; exact hown, (bstep (bstep hh.out.2 HB1.out) (by go_grown)).grown hgrow (by have := hh.out.2.size; have := HB1.out.size; simp; omega) (fun q hq => (hh.out.1.lt q hq).1)⟩)
            clear hown hgrow hblk ho2
            go_wp2
            go_roundg (n - (k + 1))
            case rel => exact ⟨k + 1, _, _, by omega, rfl, by go_num, rfl, S2⟩
            case measure => omega
          · have E := hid (show tflow M l s ds k = -(nsum ds L j) from by rw [tflow_wet hp, HSQ.out])
            have FT := hid (show decide ((pp l k).2.1 ∈ L) = true by simp; exact HF.out.2 (by omega))
            go_wp2_with fail
            refine (s_l1Has_is _ _ _ _ L _ (HO1.out.at.congr HQ.out rfl) (by omega) true FT.out).mono ?_
            rintro e _ ⟨rfl, rfl⟩
            have ho2 := hh.out.1.below HB1.out
            go_wp2_with (at_builtin; refine wp_append_ints _ rfl _ _ rfl wA.heap.size _ (tflows _ l s ds k) rfl (ho2.alloc _) _ 1 1 [tflow _ l s ds k] rfl (by rw [E.out]; exact IntsAt.single _ _) (k + 1) (by simp [tflows_len]) (by omega) (by have := ho2.len; have := hh.out.2.size; have := HB1.out.size; simp; omega) ?_)
            intro a2 c2 w2 hown hgrow hblk
            have S2 := hid (show OwnI w2 wA.heap.size (.slice a2 (k + 1) c2) (tflows _ l s ds (k + 1)) ∧ Below wA.heap.size wA w2 from
              ⟨by rw [tflows_succ]; exact hown, (bstep (bstep hh.out.2 HB1.out) (by go_grown)).grown hgrow (by have := hh.out.2.size; have := HB1.out.size; simp; omega) (fun q hq => (hh.out.1.lt q hq).1)⟩)
            clear hown hgrow hblk ho2
            go_wp2
            go_roundg (n - (k + 1))
            case rel => exact ⟨k + 1, _, _, by omega, rfl, by go_num, rfl, S2⟩
            case measure => omega
    · obtain rfl : k = n := by omega
      go_wp2
      go_ret
      exact ⟨_, _, rfl, hh.out.1.mono (by omega), bstep BA.out hh.out.2⟩

end Go.Proofs.Ytikjighlnpdgiaa

/-
  The reference's steps: the row of distances.
-/
set_option linter.unusedVariables false
set_option linter.unusedSimpArgs false
namespace Go.Proofs.Ytikjighlnpdgiaa
open Go.RowKit

/-- What holds of the row that the reference fills. -/
abbrev StepIn (wA : World) (M : Nat) (g c' : Nat) (L : List Int) (wr : World) : Prop := OwnI wr wA.heap.size (.slice (some ⟨g, 0, none⟩) (M + 1) c') L ∧ Below wA.heap.size wA wr
theorem StepIn.set {wA : World} {M g c' : Nat} {L : List Int} {wr : World} (h : StepIn wA M g c' L wr) (k : Nat) (x : Int) : StepIn wA M g c' (L.set k x) (wr.setCell ⟨g, k, none⟩ (.int .i64 x)) := by
  obtain ⟨h1, h2⟩ := h.1.set (k := k) x
  exact ⟨h1, h.2.grown h2 h.2.size (fun q hq => (h.1.lt q (by cases hq; rfl)).1)⟩
theorem StepIn.below {wA : World} {M g c' : Nat} {L : List Int} {wr wx : World} (h : StepIn wA M g c' L wr) (hb : Below wr.heap.size wr wx) : StepIn wA M g c' L wx := ⟨h.1.below hb, bstep h.2 hb⟩

set_option maxRecDepth 100000 in
set_option maxHeartbeats 8000000 in
theorem s_l2Steps (M t : Nat) (a : Option Addr) (n c : Nat) (l : List Pip) (w : World) (h : QAt w a n l) (hg : goodNet M l = true) (ht : 1 ≤ t ∧ t ≤ M) :
    Calls Try.prog 102 #[.agg #[.int .i64 M, .slice a n c], .int .i64 t] w fun e w' => ∃ g c', e = .returned (.slice (some ⟨g, 0, none⟩) (M + 1) c') ∧ OwnI w' w.heap.size (.slice (some ⟨g, 0, none⟩) (M + 1) c') (distL M l 0 t) ∧ Below w.heap.size w w' := by
  have hM : M ≤ 8 := by have := (goodNet_get hg).1; omega
  have hn : n ≤ 10 := by have := (goodNet_get hg).2.1; have := h.1; omega
  have HLN := hid h.1
  have H := hid h
  have HG := hid hg
  clear h hg
  have t0 : (0 : Int) ≤ (t : Int) := by omega
  have t1 : (t : Int) < ((M + 1 : Nat) : Int) := by omega
  have t2 : t < M + 1 := by omega
  go_enter Try.func102, Try.ntmps102
  go_upto_region 1 with fail
  have BA := hid (by go_grown : Below w.heap.size w (w.alloc (.cells #[.int .i64 M, .slice a n c] 31)))
  have N0 := hid (cell_of_row _ _ 0 _ _ (0, 0) (heap_alloc_new w (.cells #[.int .i64 M, .slice a n c] 31)))
  have N1 := hid (cell_of_row _ _ 1 _ _ (0, 0) (heap_alloc_new w (.cells #[.int .i64 M, .slice a n c] 31)))
  have hzA : w.heap.size < (w.alloc (.cells #[.int .i64 M, .slice a n c] 31)).heap.size := by simp
  have n0 := N0.out
  have n1 := N1.out
  simp only [List.getElem?_toArray, List.getElem?_cons_zero, List.getElem?_cons_succ] at n0 n1
  generalize w.alloc (.cells #[.int .i64 M, .slice a n c] 31) = wA at *
  go_wp2
  go_loopg [5, 6] (M + 1) (fun g o i wr => ∃ (k : Nat) (a' : Option Addr) (c' : Nat), k ≤ M + 1 ∧ g = M + 1 - k ∧ i = .int .i64 k ∧ o = .slice a' k c' ∧ Hid (OwnI wr wA.heap.size (.slice a' k c') (List.replicate k (-1)) ∧ Below wA.heap.size wA wr))
  case atStart => exact ⟨0, _, 0, Nat.zero_le _, rfl, rfl, rfl, hid ⟨by simpa using OwnI.lit0 wA, by go_grown⟩⟩
  case round =>
    obtain ⟨k, a', c', hk, rfl, rfl, rfl, hh⟩ := hrel
    obtain ⟨W0, hW0⟩ : ∃ W, W = wr := ⟨_, rfl⟩
    subst hW0
    have n0 := (hh.out.2.cell (p := ⟨w.heap.size, 0, none⟩) hzA).trans N0.out
    have n1 := (hh.out.2.cell (p := ⟨w.heap.size, 1, none⟩) hzA).trans N1.out
    have hz0 : w.heap.size < W0.heap.size := World.block_lt_of_cell? W0 _ n0
    by_cases hlt : k < M + 1
    · have hkm : (k : Int) ≤ (M : Int) := by omega
      go_wp2_with (at_builtin; refine wp_append_ints _ rfl _ _ rfl wA.heap.size _ (List.replicate k (-1)) rfl (hh.out.1.alloc _) _ 1 1 [(-1 : Int)] rfl (IntsAt.single _ _) (k + 1) (by simp) (by omega) (by have := hh.out.2.size; simp; omega) ?_)
      intro a2 c2 w2 hown hgrow hblk
      have S2 := hid (show OwnI w2 wA.heap.size (.slice a2 (k + 1) c2) (List.replicate (k + 1) (-1)) ∧ Below wA.heap.size wA w2 from
        ⟨by rw [List.replicate_succ']; exact hown, (bstep hh.out.2 (by go_grown)).grown hgrow (by have := hh.out.2.size; simp; omega) (fun q hq => (hh.out.1.lt q hq).1)⟩)
      clear hown hgrow hblk n0 n1
      go_wp2
      go_roundg (M + 1 - (k + 1))
      case rel => exact ⟨k + 1, _, _, by omega, rfl, by go_num, rfl, S2⟩
      case measure => omega
    · obtain rfl : k = M + 1 := by omega
      obtain ⟨g, rfl, hg1, hg2⟩ := own_some hh.out.1 (by omega)
      have hcell := hh.out.1.cell (k := t) t2
      have hfr := hh.out.1.frozen (k := t)
      have ST := hid (show StepIn wA M g c' ((List.replicate (M + 1) (-1)).set t 0) _ from StepIn.set (show StepIn wA M g c' _ W0 from hh.out) t 0)
      have RW := hid (Row.start (l := l) (L := List.replicate (M + 1) (-1)) HG.out ht (by simp) (fun v hv => by simp [show v < M + 1 by omega]))
      clear hh
      go_wp2
      go_loopg [7, 8, 9, 10] M (fun gm st x8 x9 x10 wr => ∃ (s : Nat) (L : List Int), s ≤ M ∧ gm = M - s ∧ st = .int .i64 s ∧ Hid (StepIn wA M g c' L wr) ∧ Hid (Row M l (far l 0 t) s 0 L))
      case atStart => exact ⟨0, _, Nat.zero_le _, rfl, rfl, ST, RW⟩
      case round =>
        obtain ⟨s, L, hs, rfl, rfl, hS, hR⟩ := hrel
        clear ST RW n0 n1 hcell hfr hz0
        obtain ⟨W1, hW1⟩ : ∃ W, W = wr := ⟨_, rfl⟩
        subst hW1
        have n0 := (hS.out.2.cell (p := ⟨w.heap.size, 0, none⟩) hzA).trans N0.out
        have n1 := (hS.out.2.cell (p := ⟨w.heap.size, 1, none⟩) hzA).trans N1.out
        by_cases hsm : s < M
        · go_wp2
          go_loopg [8, 9, 10] n (fun gm i x9 x10 wr => ∃ (k : Nat) (L : List Int), k ≤ n ∧ gm = n - k ∧ i = .int .i64 k ∧ Hid (StepIn wA M g c' L wr) ∧ Hid (Row M l (far l 0 t) s k L))
          case atStart => exact ⟨0, L, Nat.zero_le _, rfl, rfl, hS, hR⟩
          case round =>
            obtain ⟨k, L', hk, rfl, rfl, hS', hR'⟩ := hrel
            clear n0 n1
            have n1 := (hS'.out.2.cell (p := ⟨w.heap.size, 1, none⟩) hzA).trans N1.out
            have hz0 : w.heap.size < wr.heap.size := World.block_lt_of_cell? wr _ n1
            by_cases hlt2 : k < n
            · obtain ⟨b0, off0, rfl, hbw, x0, x1, x2, x3⟩ := QAt.get (H.out.below (bstep BA.out hS'.out.2)) k hlt2
              have hkl : k < l.length := by have := HLN.out; omega
              have HP := hid (goodNet_pipe HG.out hkl)
              have HE := hid (pipe_edge HG.out hkl)
              obtain ⟨p, hp⟩ : ∃ p : Nat, (pp l k).2.1 = p := ⟨(pp l k).2.1.toNat, by have := HP.out.2.1; omega⟩
              obtain ⟨q, hq⟩ : ∃ q : Nat, (pp l k).2.2.1 = q := ⟨(pp l k).2.2.1.toNat, by have := HP.out.2.2.1; omega⟩
              have hp1 : 1 ≤ p ∧ p ≤ M := by have := HP.out.2.1; omega
              have hq1 : 1 ≤ q ∧ q ≤ M := by have := HP.out.2.2.1; omega
              have hpq : ¬ p = q := by have := HP.out.2.2.2.1; omega
              have hqp : ¬ q = p := by omega
              rw [hp] at x1
              rw [hq] at x2
              rw [hp, hq] at HE
              have HPp := hid hp
              have HQq := hid hq
              clear hp hq hkl x0 x3
              go_upto_region 13 with fail
              go_quiet (fail)
              have HS2 := hid (StepIn.below hS'.out (bdraws nq : Below wr.heap.size wr (wr.drewN nq)))
              clear x1 x2 n1 hz0 hbw hS'
              generalize wr.drewN nq = wq at *
              have p0 : (0 : Int) ≤ (p : Int) := by omega
              have p1 : (p : Int) < ((M + 1 : Nat) : Int) := by omega
              have p2 : p < M + 1 := by omega
              have q0 : (0 : Int) ≤ (q : Int) := by omega
              have q1 : (q : Int) < ((M + 1 : Nat) : Int) := by omega
              have q2 : q < M + 1 := by omega
              obtain ⟨lp, hlp⟩ : ∃ lp, L'[p]?.getD 0 = lp := ⟨_, rfl⟩
              obtain ⟨lq, hlq⟩ : ∃ lq, L'[q]?.getD 0 = lq := ⟨_, rfl⟩
              have cp := HS2.out.1.cell (k := p) p2
              have cq := HS2.out.1.cell (k := q) q2
              have fp := HS2.out.1.frozen (k := p)
              have fq := HS2.out.1.frozen (k := q)
              rw [hlp] at cp
              rw [hlq] at cq
              have HLp := hid hlp
              have HLq := hid hlq
              clear hlp hlq
              have hgq : g < wq.heap.size := (HS2.out.1.lt _ rfl).2
              by_cases e1 : lp = s
              · by_cases e2 : lq < 0
                · have RY := hid (hR'.out.yes HG.out hp1 hq1 HE.out.1 (.inr ⟨HQq.out.symm, by
                    have := hR'.out.at' p hp1.1 hp1.2
                    rw [HLp.out, e1] at this
                    rw [HPp.out]
                    exact lev_eq_st.1 this.symm⟩) (fun v hv => by
                    rcases hv with ⟨b1, b2⟩ | ⟨b1, b2⟩
                    · rw [HQq.out] at b2
                      have h9 := hR'.out.at' q hq1.1 hq1.2
                      rw [lev_eq_st.2 b2, HLq.out] at h9
                      omega
                    · rw [b1, HQq.out]) (by rw [HLp.out]; exact e1) (by rw [HLq.out]; exact e2))
                  have e1a : lp ≤ s := by omega
                  have e1b : (s : Int) ≤ lp := by omega
                  clear e1
                  have SY := hid (HS2.out.set q ((s : Int) + 1))
                  go_wp2
                  go_roundg (n - (k + 1))
                  case rel => exact ⟨k + 1, _, by omega, rfl, by go_num, SY, RY⟩
                  case measure => omega
                · have RN := hid (hR'.out.no HPp.out HQq.out hp1 hq1 (fun _ => by rw [HLq.out]; exact e2) (fun _ => by rw [HLp.out]; omega))
                  have e1a : lp ≤ s := by omega
                  have e1b : (s : Int) ≤ lp := by omega
                  have e3 : ¬ lp < 0 := by omega
                  clear e1
                  by_cases e4 : lq = s
                  · have e4a : lq ≤ s := by omega
                    have e4b : (s : Int) ≤ lq := by omega
                    clear e4
                    go_wp2
                    go_roundg (n - (k + 1))
                    case rel => exact ⟨k + 1, L', by omega, rfl, by go_num, HS2, RN⟩
                    case measure => omega
                  · go_wp2
                    go_roundg (n - (k + 1))
                    case rel => exact ⟨k + 1, L', by omega, rfl, by go_num, HS2, RN⟩
                    case measure => omega
              · by_cases e4 : lq = s
                · by_cases e5 : lp < 0
                  · have RY := hid (hR'.out.yes HG.out hq1 hp1 HE.out.2 (.inl ⟨HPp.out.symm, by
                      have := hR'.out.at' q hq1.1 hq1.2
                      rw [HLq.out, e4] at this
                      rw [HQq.out]
                      exact lev_eq_st.1 this.symm⟩) (fun v hv => by
                      rcases hv with ⟨b1, b2⟩ | ⟨b1, b2⟩
                      · rw [b1, HPp.out]
                      · rw [HPp.out] at b2
                        have h9 := hR'.out.at' p hp1.1 hp1.2
                        rw [lev_eq_st.2 b2, HLp.out] at h9
                        omega) (by rw [HLq.out]; exact e4) (by rw [HLp.out]; exact e5))
                    have e4a : lq ≤ s := by omega
                    have e4b : (s : Int) ≤ lq := by omega
                    clear e4
                    have SY := hid (HS2.out.set p ((s : Int) + 1))
                    go_wp2
                    go_roundg (n - (k + 1))
                    case rel => exact ⟨k + 1, _, by omega, rfl, by go_num, SY, RY⟩
                    case measure => omega
                  · have RN := hid (hR'.out.no HPp.out HQq.out hp1 hq1 (fun e => by rw [HLp.out] at e; exact absurd e e1) (fun _ => by rw [HLp.out]; exact e5))
                    have e4a : lq ≤ s := by omega
                    have e4b : (s : Int) ≤ lq := by omega
                    clear e4
                    go_wp2
                    go_roundg (n - (k + 1))
                    case rel => exact ⟨k + 1, L', by omega, rfl, by go_num, HS2, RN⟩
                    case measure => omega
                · have RN := hid (hR'.out.no HPp.out HQq.out hp1 hq1 (fun e => by rw [HLp.out] at e; exact absurd e e1) (fun e => by rw [HLq.out] at e; exact absurd e e4))
                  go_wp2
                  go_roundg (n - (k + 1))
                  case rel => exact ⟨k + 1, L', by omega, rfl, by go_num, HS2, RN⟩
                  case measure => omega
            · obtain rfl : k = n := by omega
              have RX := hid (Row.next HG.out (HLN.out ▸ hR'.out))
              go_wp2
              go_roundg (M - (s + 1))
              case rel => exact ⟨s + 1, L', by omega, rfl, by go_num, hS', RX⟩
              case measure => omega
        · obtain rfl : s = M := by omega
          have E := hid (Row.done HG.out ⟨by omega, by omega⟩ hR.out)
          go_wp2
          go_ret
          refine ⟨_, _, rfl, ?_, bstep BA.out hS.out.2⟩
          rw [← E.out]
          exact hS.out.1.mono (by omega)

end Go.Proofs.Ytikjighlnpdgiaa

/-
  The reference's shortest way.
-/
set_option linter.unusedVariables false
set_option linter.unusedSimpArgs false
namespace Go.Proofs.Ytikjighlnpdgiaa
open Go.RowKit

theorem stepB_yes {l : List Pip} {f : Int → Int} {v x : Int} {k : Nat} (ho : oth (pp l k) v = x) (hx : 0 < x) (h : f x = f v - 1) : stepB l f v k = true := stepB_iff.2 ⟨by rw [ho]; exact hx, by rw [ho]; exact h⟩
theorem stepB_no {l : List Pip} {f : Int → Int} {v x : Int} {k : Nat} (ho : oth (pp l k) v = x) (h : ¬ (0 < x ∧ f x = f v - 1)) : stepB l f v k = false := by
  cases e : stepB l f v k
  · rfl
  · rw [stepB_iff, ho] at e
    exact absurd e h
theorem oth_from {p : Pip} {v x : Int} (h1 : p.2.1 = v) (h2 : p.2.2.1 = x) : oth p v = x := by unfold oth; rw [if_pos h1.symm]; exact h2
theorem oth_to {p : Pip} {v x : Int} (h0 : p.2.1 ≠ p.2.2.1) (h1 : p.2.2.1 = v) (h2 : p.2.1 = x) : oth p v = x := by unfold oth; rw [if_neg (fun e => h0 (by rw [h1, e])), if_pos h1.symm]; exact h2
theorem oth_none {p : Pip} {v : Int} (h1 : p.2.1 ≠ v) (h2 : p.2.2.1 ≠ v) : oth p v = 0 := by unfold oth; rw [if_neg (fun e => h1 e.symm), if_neg (fun e => h2 e.symm)]
/-- The first pipe that leads nearer is the one at hand. -/
theorem kk_hit {l : List Pip} {f : Int → Int} {v0 : Int} {j k : Nat} {V : Int} (hV : nod l f v0 j = V) (hk : k < l.length) (h : stepB l f V k = true) (hm : ∀ i, i < k → stepB l f V i = false) : kk l f v0 j = k := by
  unfold kk
  rw [hV]
  exact firstK_hit hk h hm
theorem all_nextB {p : Nat → Bool} {k : Nat} (h : ∀ j, j < k → p j = false) (hk : p k = false) : ∀ j, j < k + 1 → p j = false := fun j hj => by
  by_cases e : j = k
  · subst e; exact hk
  · exact h j (by omega)

set_option maxRecDepth 100000 in
set_option maxHeartbeats 8000000 in
theorem s_l2Way (M v0 t : Nat) (a : Option Addr) (n c : Nat) (l : List Pip) (w : World) (h : QAt w a n l) (hg : goodNet M l = true) (hv : 1 ≤ v0 ∧ v0 ≤ M) (ht : 1 ≤ t ∧ t ≤ M) (d : Nat) (hd : far l 0 t v0 = d) :
    Calls Try.prog 76 #[.agg #[.int .i64 M, .slice a n c], .int .i64 v0, .int .i64 t] w fun e w' => ∃ a' c', e = .returned (.slice a' d c') ∧ OwnI w' w.heap.size (.slice a' d c') (wids l (far l 0 t) v0 d) ∧ Below w.heap.size w w' := by
  have hM : M ≤ 8 := by have := (goodNet_get hg).1; omega
  have hn : n ≤ 10 := by have := (goodNet_get hg).2.1; have := h.1; omega
  have hdM : d < M := by have := far_lt (wo := 0) (v := (v0 : Int)) hg (show 1 ≤ (t : Int) ∧ (t : Int) ≤ M by omega) (by omega) (by omega); omega
  have HLN := hid h.1
  have H := hid h
  have HG := hid hg
  have HDF := hid hd
  clear h hg hd
  go_enter Try.func76, Try.ntmps76
  go_upto_region 1 with fail
  have BA := hid (by go_grown : Below w.heap.size w (w.alloc (.cells #[.int .i64 M, .slice a n c] 31)))
  have N0 := hid (cell_of_row _ _ 0 _ _ (0, 0) (heap_alloc_new w (.cells #[.int .i64 M, .slice a n c] 31)))
  have N1 := hid (cell_of_row _ _ 1 _ _ (0, 0) (heap_alloc_new w (.cells #[.int .i64 M, .slice a n c] 31)))
  have hzA : w.heap.size < (w.alloc (.cells #[.int .i64 M, .slice a n c] 31)).heap.size := by simp
  have n0 := N0.out
  have n1 := N1.out
  simp only [List.getElem?_toArray, List.getElem?_cons_zero, List.getElem?_cons_succ] at n0 n1
  generalize w.alloc (.cells #[.int .i64 M, .slice a n c] 31) = wA at *
  go_wp2_with fail
  refine (s_l2Steps M t _ _ _ l _ (H.out.below BA.out) HG.out ht).mono ?_
  rintro e w1 ⟨g1, c1, rfl, ho1, hb1⟩
  have HO1 := hid ho1
  have HB1 := hid hb1
  have hz1 : w.heap.size < w1.heap.size := by have := hb1.size; omega
  have hgs := ho1.lt g1 rfl
  clear ho1 hb1 n0 n1
  have n1 := (HB1.out.cell (p := ⟨w.heap.size, 1, none⟩) hzA).trans N1.out
  go_wp2
  go_loopg [1, 8, 9, 10, 11] d (fun g fr o i9 i10 i11 wr => ∃ (j V : Nat) (a' : Option Addr) (c' : Nat), j ≤ d ∧ g = d - j ∧ fr = .int .i64 V ∧ o = .slice a' j c' ∧ Hid (nod l (far l 0 t) v0 j = V) ∧ Hid (OwnI wr w1.heap.size (.slice a' j c') (wids l (far l 0 t) v0 j) ∧ Below w1.heap.size w1 wr))
  case atStart => exact ⟨0, v0, _, 0, Nat.zero_le _, rfl, rfl, rfl, hid rfl, hid ⟨by simpa [wids] using OwnI.lit0 w1, by go_grown⟩⟩
  case round =>
    obtain ⟨j, V, a', c', hj, rfl, rfl, rfl, hV, hh⟩ := hrel
    obtain ⟨W1, hW1⟩ : ∃ W, W = wr := ⟨_, rfl⟩
    subst hW1
    have NK := hid (nod_ok (t := (t : Int)) (v0 := (v0 : Int)) HG.out (by omega) (by omega) j (by rw [HDF.out]; omega))
    have NE := hid (nod_end (t := (t : Int)) (v0 := (v0 : Int)) (j := j) HG.out (by omega) (by omega) (by rw [HDF.out]; omega))
    rw [hV.out, HDF.out] at NK NE
    have hVM : 1 ≤ V ∧ V ≤ M := by have := NK.out.1; omega
    by_cases hlt : j < d
    · have hne : ¬ V = t := fun e => by
        have := NE.out.1 (by rw [e])
        omega
      have KK := hid (kk_ok (t := (t : Int)) (v0 := (v0 : Int)) (j := j) HG.out (by omega) (by omega) (by rw [HDF.out]; omega))
      rw [hV.out] at KK
      go_wp2
      go_loopg [1, 8, 9, 10, 11] n (fun gm fr o i x10 x11 wr => ∃ k : Nat, k ≤ n ∧ gm = n - k ∧ i = .int .i64 k ∧ fr = .int .i64 V ∧ o = .slice a' j c' ∧ Hid (∀ i, i < k → stepB l (far l 0 t) V i = false) ∧ Hid (Below W1.heap.size W1 wr))
      case atStart => exact ⟨0, Nat.zero_le _, rfl, rfl, rfl, rfl, hid (fun i hi => absurd hi (by omega)), hid (Below.refl _ _)⟩
      case round =>
        obtain ⟨k, hk, rfl, rfl, rfl, rfl, hm, hb⟩ := hrel
        have hb1 := hid (bstep hh.out.2 hb.out)
        clear n1
        have n1 := ((hb1.out.cell (p := ⟨w.heap.size, 1, none⟩) hz1).trans (HB1.out.cell (p := ⟨w.heap.size, 1, none⟩) hzA)).trans N1.out
        have hz0 : w.heap.size < wr.heap.size := World.block_lt_of_cell? wr _ n1
        by_cases hlt2 : k < n
        · obtain ⟨b0, off0, rfl, hbw, x0, x1, x2, x3⟩ := QAt.get (H.out.below (bstep (bstep BA.out HB1.out) hb1.out)) k hlt2
          have hkl : k < l.length := by have := HLN.out; omega
          have HP := hid (goodNet_pipe HG.out hkl)
          obtain ⟨F, hF⟩ : ∃ F : Nat, (pp l k).2.1 = F := ⟨(pp l k).2.1.toNat, by have := HP.out.2.1; omega⟩
          obtain ⟨T, hT⟩ : ∃ T : Nat, (pp l k).2.2.1 = T := ⟨(pp l k).2.2.1.toNat, by have := HP.out.2.2.1; omega⟩
          have hF1 : 1 ≤ F ∧ F ≤ M := by have := HP.out.2.1; omega
          have hT1 : 1 ≤ T ∧ T ≤ M := by have := HP.out.2.2.1; omega
          have HPN := hid HP.out.2.2.2.1
          rw [hF] at x1
          rw [hT] at x2
          have HFF := hid hF
          have HTT := hid hT
          have HKL := hid hkl
          clear hF hT hkl
          by_cases eF : F = V
          · subst eF
            have HOT := hid (oth_from HFF.out HTT.out)
            obtain ⟨fN, hfN⟩ : ∃ fN, far l 0 t T = fN := ⟨_, rfl⟩
            obtain ⟨fV, hfV⟩ : ∃ fV, far l 0 t F = fV := ⟨_, rfl⟩
            have DN := hid (show (distL M l 0 t)[T]?.getD 0 = fN by rw [distL_at (by omega) (by omega)]; exact hfN)
            have DV := hid (show (distL M l 0 t)[F]?.getD 0 = fV by rw [distL_at (by omega) (by omega)]; exact hfV)
            have hfV1 : fV = d - j := by have := NK.out.2; rw [hfV] at this; exact this
            have hfVb : 0 ≤ fV ∧ fV ≤ 8 := by omega
            have X0 : (0 : Int) ≤ (T : Int) := by omega
            have X1 : (T : Int) < ((M + 1 : Nat) : Int) := by omega
            have X2 : T < M + 1 := by omega
            have X3 : (0 : Int) < (T : Int) := by omega
            have V0 : (0 : Int) ≤ (F : Int) := by omega
            have V1 : (F : Int) < ((M + 1 : Nat) : Int) := by omega
            have V2 : F < M + 1 := by omega
            have V3 : 0 < T := by omega
            have hgw : g1 < wr.heap.size := by have := hb1.out.size; omega
            have cN := (hb1.out.cell (p := ⟨g1, T, none⟩) hgs.2).trans (HO1.out.cell (k := T) X2)
            have cV := (hb1.out.cell (p := ⟨g1, F, none⟩) hgs.2).trans (HO1.out.cell (k := F) V2)
            rw [DN.out] at cN
            rw [DV.out] at cV
            have HFN := hid hfN
            have HFV := hid hfV
            clear hfN hfV hfV1
            by_cases hs : fN = fV - 1
            · have SB := hid (stepB_yes (f := far l 0 t) HOT.out X3 (by rw [HFN.out, HFV.out]; exact hs))
              have E := hid (kk_hit hV.out HKL.out SB.out hm.out)
              have hs1 : fN ≤ fV - 1 := by omega
              have hs2 : fV - 1 ≤ fN := by omega
              have hsb : (fN == fV - 1) = true := by simpa using hs
              clear hs
              go_upto_region 13 with fail
              go_quiet (fail)
              have BX := hid (bstep hb.out (bstep (by go_grown : Below wr.heap.size wr (wr.alloc (.cells #[.int .i64 (pp l k).1, .int .i64 F, .int .i64 T, .int .i64 (pp l k).2.2.2] 71))) (bdraws nq)))
              have pc := ((bdraws nq : Below (wr.alloc (.cells #[.int .i64 (pp l k).1, .int .i64 F, .int .i64 T, .int .i64 (pp l k).2.2.2] 71)).heap.size (wr.alloc (.cells #[.int .i64 (pp l k).1, .int .i64 F, .int .i64 T, .int .i64 (pp l k).2.2.2] 71)) _).cell (p := ⟨wr.heap.size, 0, none⟩) (by simp)).trans (cell_of_row _ _ 0 _ _ (0, 0) (heap_alloc_new wr (.cells #[.int .i64 (pp l k).1, .int .i64 F, .int .i64 T, .int .i64 (pp l k).2.2.2] 71)))
              simp only [List.getElem?_toArray, List.getElem?_cons_zero] at pc
              generalize (wr.alloc (.cells #[.int .i64 (pp l k).1, .int .i64 F, .int .i64 T, .int .i64 (pp l k).2.2.2] 71)).drewN nq = wq at *
              have BY := hid (bstep hh.out.2 BX.out)
              have ho2 := hh.out.1.below BX.out
              go_wp2_with (at_builtin; refine wp_append_ints _ rfl _ _ rfl w1.heap.size _ (wids l (far l 0 t) v0 j) rfl (ho2.alloc _) _ 1 1 [(pp l k).1] rfl (IntsAt.single _ _) (j + 1) (by simp [wids_len]) (by omega) (by have := BY.out.size; simp; omega) ?_)
              intro a2 c2 w5 hown hgrow hblk
              have S2 := hid (show OwnI w5 w1.heap.size (.slice a2 (j + 1) c2) (wids l (far l 0 t) v0 (j + 1)) ∧ Below w1.heap.size w1 w5 from
                ⟨by rw [wids_succ, E.out]; exact hown, (bstep BY.out (by go_grown)).grown hgrow (by have := BY.out.size; simp; omega) (fun q hq => (hh.out.1.lt q hq).1)⟩)
              clear hown hgrow hblk ho2
              go_wp2
              go_roundg (d - (j + 1))
              case rel => exact ⟨j + 1, T, _, _, by omega, rfl, rfl, rfl, hid (by rw [nod_succ, E.out, hV.out]; exact HOT.out), S2⟩
              case measure => omega
            · have SB := hid (stepB_no (f := far l 0 t) HOT.out (fun e => hs (by have := e.2; rw [HFN.out, HFV.out] at this; exact this)))
              have hsb : (fN == fV - 1) = false := by simpa using hs
              go_upto_region 13 with fail
              go_quiet (fail)
              go_wp2
              go_roundg (n - (k + 1))
              case rel => exact ⟨k + 1, by omega, rfl, by go_num, rfl, rfl, hid (all_nextB hm.out SB.out), hid (bstep hb.out (bstep (by go_grown) (bdraws _)))⟩
              case measure => omega
          · have hFV : ((F : Int) == (V : Int)) = false := by simp; omega
            by_cases eT : T = V
            · subst eT
              have HOT := hid (oth_to HPN.out HTT.out HFF.out)
              obtain ⟨fN, hfN⟩ : ∃ fN, far l 0 t F = fN := ⟨_, rfl⟩
              obtain ⟨fV, hfV⟩ : ∃ fV, far l 0 t T = fV := ⟨_, rfl⟩
              have DN := hid (show (distL M l 0 t)[F]?.getD 0 = fN by rw [distL_at (by omega) (by omega)]; exact hfN)
              have DV := hid (show (distL M l 0 t)[T]?.getD 0 = fV by rw [distL_at (by omega) (by omega)]; exact hfV)
              have hfV1 : fV = d - j := by have := NK.out.2; rw [hfV] at this; exact this
              have hfVb : 0 ≤ fV ∧ fV ≤ 8 := by omega
              have X0 : (0 : Int) ≤ (F : Int) := by omega
              have X1 : (F : Int) < ((M + 1 : Nat) : Int) := by omega
              have X2 : F < M + 1 := by omega
              have X3 : (0 : Int) < (F : Int) := by omega
              have V0 : (0 : Int) ≤ (T : Int) := by omega
              have V1 : (T : Int) < ((M + 1 : Nat) : Int) := by omega
              have V2 : T < M + 1 := by omega
              have V3 : 0 < F := by omega
              have hgw : g1 < wr.heap.size := by have := hb1.out.size; omega
              have cN := (hb1.out.cell (p := ⟨g1, F, none⟩) hgs.2).trans (HO1.out.cell (k := F) X2)
              have cV := (hb1.out.cell (p := ⟨g1, T, none⟩) hgs.2).trans (HO1.out.cell (k := T) V2)
              rw [DN.out] at cN
              rw [DV.out] at cV
              have HFN := hid hfN
              have HFV := hid hfV
              clear hfN hfV hfV1
              by_cases hs : fN = fV - 1
              · have SB := hid (stepB_yes (f := far l 0 t) HOT.out X3 (by rw [HFN.out, HFV.out]; exact hs))
                have E := hid (kk_hit hV.out HKL.out SB.out hm.out)
                have hs1 : fN ≤ fV - 1 := by omega
                have hs2 : fV - 1 ≤ fN := by omega
                have hsb : (fN == fV - 1) = true := by simpa using hs
                clear hs
                go_upto_region 13 with fail
                go_quiet (fail)
                have BX := hid (bstep hb.out (bstep (by go_grown : Below wr.heap.size wr (wr.alloc (.cells #[.int .i64 (pp l k).1, .int .i64 F, .int .i64 T, .int .i64 (pp l k).2.2.2] 71))) (bdraws nq)))
                have pc := ((bdraws nq : Below (wr.alloc (.cells #[.int .i64 (pp l k).1, .int .i64 F, .int .i64 T, .int .i64 (pp l k).2.2.2] 71)).heap.size (wr.alloc (.cells #[.int .i64 (pp l k).1, .int .i64 F, .int .i64 T, .int .i64 (pp l k).2.2.2] 71)) _).cell (p := ⟨wr.heap.size, 0, none⟩) (by simp)).trans (cell_of_row _ _ 0 _ _ (0, 0) (heap_alloc_new wr (.cells #[.int .i64 (pp l k).1, .int .i64 F, .int .i64 T, .int .i64 (pp l k).2.2.2] 71)))
                simp only [List.getElem?_toArray, List.getElem?_cons_zero] at pc
                generalize (wr.alloc (.cells #[.int .i64 (pp l k).1, .int .i64 F, .int .i64 T, .int .i64 (pp l k).2.2.2] 71)).drewN nq = wq at *
                have BY := hid (bstep hh.out.2 BX.out)
                have ho2 := hh.out.1.below BX.out
                go_wp2_with (at_builtin; refine wp_append_ints _ rfl _ _ rfl w1.heap.size _ (wids l (far l 0 t) v0 j) rfl (ho2.alloc _) _ 1 1 [(pp l k).1] rfl (IntsAt.single _ _) (j + 1) (by simp [wids_len]) (by omega) (by have := BY.out.size; simp; omega) ?_)
                intro a2 c2 w5 hown hgrow hblk
                have S2 := hid (show OwnI w5 w1.heap.size (.slice a2 (j + 1) c2) (wids l (far l 0 t) v0 (j + 1)) ∧ Below w1.heap.size w1 w5 from
                  ⟨by rw [wids_succ, E.out]; exact hown, (bstep BY.out (by go_grown)).grown hgrow (by have := BY.out.size; simp; omega) (fun q hq => (hh.out.1.lt q hq).1)⟩)
                clear hown hgrow hblk ho2
                go_wp2
                go_roundg (d - (j + 1))
                case rel => exact ⟨j + 1, F, _, _, by omega, rfl, rfl, rfl, hid (by rw [nod_succ, E.out, hV.out]; exact HOT.out), S2⟩
                case measure => omega
              · have SB := hid (stepB_no (f := far l 0 t) HOT.out (fun e => hs (by have := e.2; rw [HFN.out, HFV.out] at this; exact this)))
                have hsb : (fN == fV - 1) = false := by simpa using hs
                go_upto_region 13 with fail
                go_quiet (fail)
                go_wp2
                go_roundg (n - (k + 1))
                case rel => exact ⟨k + 1, by omega, rfl, by go_num, rfl, rfl, hid (all_nextB hm.out SB.out), hid (bstep hb.out (bstep (by go_grown) (bdraws _)))⟩
                case measure => omega
            · have hTV : ((T : Int) == (V : Int)) = false := by simp; omega
              have SB := hid (stepB_no (f := far l 0 t) (oth_none (p := pp l k) (v := (V : Int)) (by rw [HFF.out]; omega) (by rw [HTT.out]; omega)) (by omega))
              go_upto_region 13 with fail
              go_quiet (fail)
              go_wp2
              go_roundg (n - (k + 1))
              case rel => exact ⟨k + 1, by omega, rfl, by go_num, rfl, rfl, hid (all_nextB hm.out SB.out), hid (bstep hb.out (bstep (by go_grown) (bdraws _)))⟩
              case measure => omega
        · have := KK.out.1
          have h9 := hm.out (kk l (far l 0 t) v0 j) (by have := HLN.out; omega)
          rw [KK.out.2.1] at h9
          cases h9
    · obtain rfl : j = d := by omega
      have hVt : V = t := by
        have := NE.out.2 rfl
        omega
      subst hVt
      go_wp2
      go_ret
      exact ⟨_, _, rfl, hh.out.1.mono (by omega), bstep BA.out (bstep HB1.out hh.out.2)⟩

end Go.Proofs.Ytikjighlnpdgiaa

/-
  The losses along a way: the reference's walk.
-/
set_option linter.unusedVariables false
set_option linter.unusedSimpArgs false
namespace Go.Proofs.Ytikjighlnpdgiaa
open Go.RowKit

theorem sgl_from {l : List Pip} {fs : List Int} {v : Int} {k : Nat} (h : v = (pp l k).2.1) : sgl l fs v k = loss l fs k := by unfold sgl; rw [if_pos h]
theorem sgl_to {l : List Pip} {fs : List Int} {v : Int} {k : Nat} (h : ¬ v = (pp l k).2.1) : sgl l fs v k = -(loss l fs k) := by unfold sgl; rw [if_neg h]

/-- What a drawn region of the walk may rest on. -/
abbrev AlongC (w W1 : World) (M : Nat) (b0 off0 n c g j : Nat) (x : Int) (w' : World) : Prop :=
  Below W1.heap.size W1 w' ∧ w'.cell? ⟨w.heap.size, 0, none⟩ = some (.int .i64 M) ∧ w'.cell? ⟨w.heap.size, 1, none⟩ = some (.slice (some ⟨b0, off0, none⟩) n c) ∧ w'.cell? ⟨g, j, none⟩ = some (.int .i64 x)
theorem AlongC.keep (w W1 : World) (M : Nat) (b0 off0 n c g j : Nat) (x : Int) (wy w5 : World) (h : AlongC w W1 M b0 off0 n c g j x wy) (hb : Below wy.heap.size wy w5) : AlongC w W1 M b0 off0 n c g j x w5 :=
  ⟨bstep h.1 hb, (hb.cell (World.block_lt_of_cell? wy _ h.2.1)).trans h.2.1, (hb.cell (World.block_lt_of_cell? wy _ h.2.2.1)).trans h.2.2.1, (hb.cell (World.block_lt_of_cell? wy _ h.2.2.2)).trans h.2.2.2⟩
abbrev LossC (W1 : World) (P : Nat) (b1 off1 K : Nat) (p0 p1 p2 p3 x : Int) (w' : World) : Prop :=
  Below W1.heap.size W1 w' ∧ w'.cell? ⟨P, 0, none⟩ = some (.int .i64 p0) ∧ w'.cell? ⟨P, 1, none⟩ = some (.int .i64 p1) ∧ w'.cell? ⟨P, 2, none⟩ = some (.int .i64 p2) ∧ w'.cell? ⟨P, 3, none⟩ = some (.int .i64 p3) ∧ w'.cell? ⟨b1, off1 + K, none⟩ = some (.int .i64 x)
theorem LossC.keep (W1 : World) (P : Nat) (b1 off1 K : Nat) (p0 p1 p2 p3 x : Int) (wy w5 : World) (h : LossC W1 P b1 off1 K p0 p1 p2 p3 x wy) (hb : Below wy.heap.size wy w5) : LossC W1 P b1 off1 K p0 p1 p2 p3 x w5 :=
  ⟨bstep h.1 hb, (hb.cell (World.block_lt_of_cell? wy _ h.2.1)).trans h.2.1, (hb.cell (World.block_lt_of_cell? wy _ h.2.2.1)).trans h.2.2.1, (hb.cell (World.block_lt_of_cell? wy _ h.2.2.2.1)).trans h.2.2.2.1, (hb.cell (World.block_lt_of_cell? wy _ h.2.2.2.2.1)).trans h.2.2.2.2.1, (hb.cell (World.block_lt_of_cell? wy _ h.2.2.2.2.2)).trans h.2.2.2.2.2⟩


end Go.Proofs.Ytikjighlnpdgiaa

/-
  Heads in a tree: the reference's walk.
-/
set_option linter.unusedVariables false
set_option linter.unusedSimpArgs false
namespace Go.Proofs.Ytikjighlnpdgiaa
open Go.RowKit

theorem tflow_fit {M : Nat} {l : List Pip} {s : Int} {ds : List Int} {i : Nat} (hM : M ≤ 8) (hl : ds.length = M) (h : ∀ x ∈ ds, 0 ≤ x ∧ x ≤ 1000) : -8000 ≤ tflow M l s ds i ∧ tflow M l s ds i ≤ 8000 := by
  have := dsum_fit (D := distL M l (pp l i).1 s) h M (by omega)
  unfold tflow
  split <;> omega
theorem tflows_good {M n : Nat} {l : List Pip} {s : Int} {ds : List Int} (hM : M ≤ 8) (hl : ds.length = M) (h : ∀ x ∈ ds, 0 ≤ x ∧ x ≤ 1000) : goodFl n (tflows M l s ds n) = true := by
  rw [goodFl_iff]
  refine ⟨tflows_len _ _ _ _ _, fun x hx => ?_⟩
  unfold tflows at hx
  obtain ⟨i, -, rfl⟩ := List.mem_map.1 hx
  exact tflow_fit hM hl h


end Go.Proofs.Ytikjighlnpdgiaa

