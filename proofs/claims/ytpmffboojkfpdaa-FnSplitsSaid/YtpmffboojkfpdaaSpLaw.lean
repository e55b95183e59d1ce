/-
  The law FnSplits returns true for every input, and leaves its argument as it was. No condition.
-/
import Derived.Deep.CutBlock
import Derived.Test.YtpmffboojkfpdaaSp2
import Derived.Test.YtpmffboojkfpdaaSp4
import Derived.Test.YtpmffboojkfpdaaSp5
import Derived.Test.YtpmffboojkfpdaaSp13
import Derived.Test.YtpmffboojkfpdaaSp17
import Derived.Test.YtpmffboojkfpdaaSp18
set_option linter.unusedVariables false
set_option linter.unusedSimpArgs false
namespace Go.Proofs.Ytpmffboojkfpdaa
open Go.ChangeShapes Go.WideShapes Go.ChangeAt Go.RowKit Go.Joins

theorem l_vInts_two (a b : Option Addr) (n m c d : Nat) (l : List Int) (w : World) (h : IntsAt w a n l) (h' : IntsAt w b m l) (hn : n ≤ 4194304) :
    Calls Try.prog 57 #[.slice a n c, .slice b m d] w fun e w' => e = .returned (.bool true) ∧ Below w.heap.size w w' := by
  have h1 := l_vInts a b n m c d l l w h h' hn (by have := h.1; have := h'.1; omega)
  rwa [decide_eq_true (rfl : l = l)] at h1

set_option maxRecDepth 100000 in
set_option maxHeartbeats 16000000 in
theorem law_FnSplits (a0 : Option Addr) (n0 c0 : Nat) (w : World) (h : BytesAt w a0 n0) :
    Calls Try.prog 12 #[.slice a0 n0 c0] w fun e w' => e = .returned (.bool true) ∧ Below w.heap.size w w' := by
  have H_code := hid h
  clear h
  by_cases hn : 65536 < n0
  · have hv : decide (65536 < n0) = true := by simpa using hn
    go_enter Try.func12, Try.ntmps12
    go_wp2_with fail
    refine (l_vBig _ _ _ _).mono ?_
    rintro e _ ⟨rfl, rfl⟩
    go_wp2
    go_ret
    exact ⟨rfl, Below.refl _ _⟩
  have hv : decide (65536 < n0) = false := by simpa using hn
  go_enter Try.func12, Try.ntmps12
  go_wp2_with fail
  refine (l_vBig _ _ _ _).mono ?_
  rintro e _ ⟨rfl, rfl⟩
  rw [hv]
  clear hn hv
  go_wp2_with fail
  refine (s_DrawSplitFlow _ _ _ _ (H_code.out.below (by go_grown))).mono ?_
  rintro e w1 ⟨a, n, c, L, q, rfl, ⟨hq, hn1, hfr⟩, hb⟩
  have HB_1 := hid (bstep (by go_grown) hb : Below w.heap.size w w1)
  have B_1 := HB_1
  have S_1 := HB_1.out.size
  clear hb
  clear hfr
  have O_L := hid hq
  clear hq
  obtain ⟨R, B, hR⟩ : ∃ R B, splitR L q = (R, B) := ⟨_, _, rfl⟩
  have HR1 := hid hR
  clear hR
  have hlr : R.length ≤ 1000 := splitR_len HR1.out
  go_wp2_with fail
  refine (i_SplitFlow _ _ _ q L _ (O_L.out.below (by go_grown)) (by omega) R B HR1.out).mono ?_
  rintro e w2 ⟨p4, k4, rfl, ho, hb⟩
  have HB_2 := hid (bstep (by go_grown) hb : Below w1.heap.size w1 w2)
  have B_2 := hid (bstep B_1.out HB_2.out)
  have S_2 := HB_2.out.size
  clear hb
  have O_R4 := hid ho
  clear ho
  have O_L_2 := hid (O_L.out.below HB_2.out)
  go_wp2_with fail
  refine (s_SplitFlow _ _ _ q L _ (O_L_2.out.below (by go_grown)) (by omega) R B HR1.out).mono ?_
  rintro e w3 ⟨p5, k5, rfl, ho, hb⟩
  have HB_3 := hid (bstep (by go_grown) hb : Below w2.heap.size w2 w3)
  have B_3 := hid (bstep B_2.out HB_3.out)
  have S_3 := HB_3.out.size
  clear hb
  have O_R5 := hid ho
  clear ho
  have O_R4_3 := hid (O_R4.out.below HB_3.out)
  have O_L_3 := hid (O_L_2.out.below HB_3.out)
  go_upto_region 6 with fail
  go_cut [64] (fun s64 wx => s64 = .bool false ∧ Hid (Below w3.heap.size w3 wx))
  case first => as_aux_lemma =>
    go_wp2_with fail
    refine (l_vInts_same _ _ _ _ _ R _ (O_R4_3.out.at.below (by go_grown)) (O_R5.out.at.below (by go_grown)) (by omega)).mono ?_
    rintro e w4 ⟨rfl, hb⟩
    have HB_4 := hid (bstep (by go_grown) hb : Below w3.heap.size w3 w4)
    have B_4 := hid (bstep B_3.out HB_4.out)
    have S_4 := HB_4.out.size
    clear hb
    go_wp2_with fail
    go_meet
    exact ⟨rfl, hid HB_4.out⟩
  case rest => as_aux_lemma =>
    obtain ⟨rfl, hcu⟩ := hcut
    obtain ⟨w4, hW4⟩ : ∃ W, W = wc := ⟨_, rfl⟩
    subst hW4
    have HB_4 := hcu
    have B_4 := hid (bstep B_3.out HB_4.out)
    have S_4 := HB_4.out.size
    clear hcu
    have O_R4_4 := hid (O_R4_3.out.below HB_4.out)
    have O_L_4 := hid (O_L_3.out.below HB_4.out)
    go_upto_if 65 with (fail)
    go_cut [] (fun wx => Hid (Below w4.heap.size w4 wx))
    case first => as_aux_lemma =>
      cases B
      · go_wp2_with fail
        go_meet
        exact hid (Below.refl _ _)
      · obtain ⟨hgs, hq60, G, hRG, hGl, h60, hsum, hE, hcost, hex⟩ := split_yes HR1.out
        have hL5 := (goodSizes_iff.1 hgs).1
        have hLn : n = L.length := O_L_4.out.1.symm
        have hRl : R.length = L.length := by rw [hRG, liftN_len]; exact hGl
        obtain ⟨N, hN⟩ : ∃ N, R.length = N := ⟨_, rfl⟩
        have hN5 : 1 ≤ N ∧ N ≤ 5 := by omega
        have HGET := hid (fun i => (by rw [hRG]; exact liftN_get G i : R[i]?.getD 0 = (qt G i : Int)))
        have HQ60 := hid (fun i => (show qt G i ≤ 60 from by
        by_cases hi : i < G.length
        · unfold qt; rw [List.getElem?_eq_getElem hi]; exact h60 _ (List.getElem_mem hi)
        · unfold qt; rw [List.getElem?_eq_none (by omega)]; exact Nat.zero_le _))
        obtain ⟨C, hC⟩ : ∃ C, costs L G = C := ⟨_, rfl⟩
        rw [hC] at hE hcost hex
        have HE := hid hE
        have HEX := hid (show ∀ i k, i < N → k < N → i ≠ k → qt G i ≠ 0 → qt G k ≠ 60 → ∃ E : Int, splitE L ((R.set i ((qt G i : Int) - 1)).set k ((qt G k : Int) + 1)) = (E, true) ∧ C ≤ E from fun i k hi hk => hex i k (by omega) (by omega))
        have HSUM := hid hsum
        have HW := hid (show ∀ x ∈ R, -1000000000000 ≤ x ∧ x ≤ 1000000000000 from fun x hx => by
        rw [hRG] at hx
        obtain ⟨y, hy, rfl⟩ := List.mem_map.1 hx
        have := h60 y hy
        omega)
        have HNL := hid hN
        have HLN := hid hLn
        have P4 := hid (show OwnI w4 _ (.slice p4 N k4) R from by have := O_R4_4.out; rw [hN] at this; exact this)
        rw [hN]
        clear hgs hRG hGl h60 hsum hE hcost hex hLn hRl hN hC hlr hL5
        obtain ⟨g4, rfl, hg41, hg42⟩ := own_someS P4.out (by omega)
        go_wp2_with fail
        refine (i_SplitEnergy _ _ _ _ _ _ L R _ (O_L_4.out.below (by go_grown)) (P4.out.at.below (by go_grown)) (by omega) (by omega) C true HE.out).mono ?_
        rintro e w5 ⟨rfl, hb⟩
        have HB_5 := hid (bstep (by go_grown) hb : Below w4.heap.size w4 w5)
        have B_5 := hid (bstep B_4.out HB_5.out)
        have S_5 := HB_5.out.size
        clear hb
        have P4_5 := hid (P4.out.below HB_5.out)
        have O_L_5 := hid (O_L_4.out.below HB_5.out)
        go_wp2_with fail
        refine (l_vSum _ _ _ R _ (P4_5.out.at.below (by go_grown)) (by omega) HW.out).mono ?_
        rintro e _ ⟨rfl, rfl⟩
        rw [HSUM.out]
        go_wp2
        go_loopg [11] N (fun g i wr => ∃ k : Nat, k ≤ N ∧ g = N - k ∧ i = .int .i64 k ∧ Hid (Below w5.heap.size w5 wr))
        case atStart => exact ⟨0, Nat.zero_le _, rfl, rfl, hid (Below.refl _ _)⟩
        case round =>
          obtain ⟨i, hi, rfl, rfl, hh⟩ := hrel
          obtain ⟨w6, hW6⟩ : ∃ W, W = wr := ⟨_, rfl⟩
          subst hW6
          have HB_6 := hh
          have B_6 := hid (bstep B_5.out HB_6.out)
          have S_6 := HB_6.out.size
          have HH1 := hh
          clear hh
          have P4_6 := hid (P4_5.out.below HB_6.out)
          have O_L_6 := hid (O_L_5.out.below HB_6.out)
          by_cases hlt : i < N
          · have hlti : (i : Int) < (N : Int) := by omega
            have hi0 : (0 : Int) ≤ (i : Int) := by omega
            have hwi : IntKind.i64.wrap ((i : Int) + 1) = ((i + 1 : Nat) : Int) := by rw [IntWalk.i64_in _ (by omega)]; omega
            go_wp2
            go_loopg [12] N (fun g j wr => ∃ k : Nat, k ≤ N ∧ g = N - k ∧ j = .int .i64 k ∧ Hid (Below w6.heap.size w6 wr))
            case atStart => exact ⟨0, Nat.zero_le _, rfl, rfl, hid (Below.refl _ _)⟩
            case round =>
              obtain ⟨k, hk, rfl, rfl, hh⟩ := hrel
              obtain ⟨w7, hW7⟩ : ∃ W, W = wr := ⟨_, rfl⟩
              subst hW7
              have HB_7 := hh
              have B_7 := hid (bstep B_6.out HB_7.out)
              have S_7 := HB_7.out.size
              have P4_7 := hid (P4_6.out.below HB_7.out)
              have O_L_7 := hid (O_L_6.out.below HB_7.out)
              by_cases hlt2 : k < N
              · have hltk : (k : Int) < (N : Int) := by omega
                have hk0 : (0 : Int) ≤ (k : Int) := by omega
                have hwk : IntKind.i64.wrap ((k : Int) + 1) = ((k + 1 : Nat) : Int) := by rw [IntWalk.i64_in _ (by omega)]; omega
                have ci := P4_7.out.cell (k := i) hlt
                have ck := P4_7.out.cell (k := k) hlt2
                rw [HGET.out] at ci ck
                have hqi := HQ60.out i
                have hqk := HQ60.out k
                obtain ⟨u, hu⟩ : ∃ u, qt G i = u := ⟨_, rfl⟩
                obtain ⟨z, hz⟩ : ∃ z, qt G k = z := ⟨_, rfl⟩
                rw [hu] at ci hqi
                rw [hz] at ck hqk
                have HU := hid hu
                have HZ := hid hz
                clear hu hz
                by_cases hik : i = k
                · have hikb : ((i : Int) == (k : Int)) = true := by simp [hik]
                  have HIK := hid hik
                  clear hik
                  go_wp2
                  go_roundg (N - (k + 1))
                  case rel => exact ⟨k + 1, by omega, rfl, rfl, hid hh.out⟩
                  case measure => omega
                · have hikb : ((i : Int) == (k : Int)) = false := by simp; omega
                  have hikn : ¬ (i : Int) = (k : Int) := by omega
                  by_cases hu0 : u = 0
                  · subst hu0
                    go_wp2
                    go_roundg (N - (k + 1))
                    case rel => exact ⟨k + 1, by omega, rfl, rfl, hid hh.out⟩
                    case measure => omega
                  · have hub : ((u : Int) == 0) = false := by simp; omega
                    have hun : ¬ (u : Int) = 0 := by omega
                    by_cases hz60 : z = 60
                    · subst hz60
                      go_wp2
                      go_roundg (N - (k + 1))
                      case rel => exact ⟨k + 1, by omega, rfl, rfl, hid hh.out⟩
                      case measure => omega
                    · have hzb : ((z : Int) == 60) = false := by simp; omega
                      have hzn : ¬ (z : Int) = 60 := by omega
                      obtain ⟨E, hE, hCE⟩ := HEX.out i k hlt hlt2 hik (by rw [HU.out]; exact hu0) (by rw [HZ.out]; exact hz60)
                      rw [HU.out, HZ.out] at hE
                      have HE2 := hid hE
                      clear hE
                      have hEC : ¬ E < C := by omega
                      go_wp2_with (at_builtin; refine wp_append_ints _ rfl _ _ rfl w7.heap.size _ [] rfl (OwnI.lit0 w7) (some ⟨g4, 0, none⟩) N k4 R rfl (P4_7.out.at.below ((Below.refl _ _).alloc (Nat.le_refl _) _)) N (by simp) (by omega) (by simp) ?_)
                      intro a6 c6 v6 hown hgrow _
                      obtain ⟨g6, rfl, hg61, hg62⟩ := own_someS hown (by omega)
                      have O6 := hid hown
                      have HV6 := hid (Below.grown ((Below.refl _ _).alloc (Nat.le_refl _) _) hgrow (by simp) (fun q e => by cases e; exact Nat.le_refl _) : Below w7.heap.size w7 v6)
                      clear hown hgrow ci ck
                      have c1 := O6.out.cell (k := i) hlt
                      rw [HGET.out, HU.out] at c1
                      have f1 := O6.out.frozen (k := i)
                      have hw1 : IntKind.i64.wrap ((u : Int) - 1) = (u : Int) - 1 := IntWalk.i64_in _ (by omega)
                      go_upto_region 21 with fail
                      have O7 := hid (O6.out.set (k := i) ((u : Int) - 1)).1
                      have HV7 := hid (HV6.out.setCell hg61 (.int .i64 ((u : Int) - 1)) : Below w7.heap.size w7 (v6.setCell ⟨g6, i, none⟩ (.int .i64 ((u : Int) - 1))))
                      generalize v6.setCell ⟨g6, i, none⟩ (.int .i64 ((u : Int) - 1)) = v7 at *
                      clear c1 f1 O6 HV6
                      have c2 := O7.out.cell (k := k) hlt2
                      rw [List.getElem?_set_ne hik, HGET.out, HZ.out] at c2
                      have f2 := O7.out.frozen (k := k)
                      have hw2 : IntKind.i64.wrap ((z : Int) + 1) = (z : Int) + 1 := IntWalk.i64_in _ (by omega)
                      go_upto_region 22 with fail
                      have O8 := hid (O7.out.set (k := k) ((z : Int) + 1)).1
                      have HV8 := hid (HV7.out.setCell hg61 (.int .i64 ((z : Int) + 1)) : Below w7.heap.size w7 (v7.setCell ⟨g6, k, none⟩ (.int .i64 ((z : Int) + 1))))
                      generalize v7.setCell ⟨g6, k, none⟩ (.int .i64 ((z : Int) + 1)) = v8 at *
                      clear c2 f2 O7 HV7
                      go_wp2_with fail
                      refine (i_SplitEnergy _ _ _ _ _ _ L _ _ (O_L_7.out.below HV8.out) O8.out.at (by omega) (by omega) E true HE2.out).mono ?_
                      rintro e v9 ⟨rfl, hb9⟩
                      have HV9 := hid (bstep HV8.out hb9)
                      clear hb9
                      go_wp2
                      go_roundg (N - (k + 1))
                      case rel => exact ⟨k + 1, by omega, rfl, rfl, hid (bstep hh.out HV9.out)⟩
                      case measure => omega
              · obtain rfl : N = k := by omega
                go_wp2
                go_roundg (N - (i + 1))
                case rel => exact ⟨i + 1, by omega, rfl, rfl, hid (bstep HH1.out hh.out)⟩
                case measure => omega
          · obtain rfl : N = i := by omega
            go_wp2_with fail
            rw [← HNL.out]
            go_meet
            exact hid (bstep HB_5.out HH1.out)
    case rest => as_aux_lemma =>
      obtain ⟨w5, hW5⟩ : ∃ W, W = wc := ⟨_, rfl⟩
      subst hW5
      have HB_5 := hcut
      have B_5 := hid (bstep B_4.out HB_5.out)
      have S_5 := HB_5.out.size
      go_wp2_with fail
      refine (s_DrawSplitEnergy _ _ _ _ ((H_code.out.below B_5.out).below (by go_grown))).mono ?_
      rintro e w6 ⟨a6, n6, c6, L6, a7, n7, c7, P7, rfl, ⟨⟨hq6, hn6⟩, hq7, hn7⟩, hb⟩
      have HB_6 := hid (bstep (by go_grown) hb : Below w5.heap.size w5 w6)
      have B_6 := hid (bstep B_5.out HB_6.out)
      have S_6 := HB_6.out.size
      clear hb
      have O_L6 := hid hq6
      clear hq6
      have O_P7 := hid hq7
      clear hq7
      obtain ⟨x8, b8, hR⟩ : ∃ x8 b8, splitE L6 P7 = (x8, b8) := ⟨_, _, rfl⟩
      have HR2 := hid hR
      clear hR
      go_wp2_with fail
      refine (i_SplitEnergy _ _ _ _ _ _ L6 P7 _ (O_L6.out.below (by go_grown)) (O_P7.out.below (by go_grown)) (by omega) (by omega) x8 b8 HR2.out).mono ?_
      rintro e w7 ⟨rfl, hb⟩
      have HB_7 := hid (bstep (by go_grown) hb : Below w6.heap.size w6 w7)
      have B_7 := hid (bstep B_6.out HB_7.out)
      have S_7 := HB_7.out.size
      clear hb
      have O_L6_7 := hid (O_L6.out.below HB_7.out)
      have O_P7_7 := hid (O_P7.out.below HB_7.out)
      go_wp2_with fail
      refine (s_SplitEnergy _ _ _ _ _ _ L6 P7 _ (O_L6_7.out.below (by go_grown)) (O_P7_7.out.below (by go_grown)) (by omega) (by omega) x8 b8 HR2.out).mono ?_
      rintro e w8 ⟨rfl, hb⟩
      have HB_8 := hid (bstep (by go_grown) hb : Below w7.heap.size w7 w8)
      have B_8 := hid (bstep B_7.out HB_8.out)
      have S_8 := HB_8.out.size
      clear hb
      go_upto_region 28 with fail
      go_cut [165] (fun s165 wx => s165 = .bool false ∧ Hid (Below w8.heap.size w8 wx))
      case first => as_aux_lemma =>
        go_wp2_with fail
        go_meet
        exact ⟨rfl, hid (Below.refl _ _)⟩
      case rest => as_aux_lemma =>
        obtain ⟨rfl, hcu⟩ := hcut
        obtain ⟨w9, hW9⟩ : ∃ W, W = wc := ⟨_, rfl⟩
        subst hW9
        have HB_9 := hcu
        have B_9 := hid (bstep B_8.out HB_9.out)
        have S_9 := HB_9.out.size
        clear hcu
        go_wp2_with fail
        refine (s_DrawTurnFlows _ _ _ _ ((H_code.out.below B_9.out).below (by go_grown))).mono ?_
        rintro e w10 ⟨N9, a9, m9, c9, L9, a10, m10, c10, l10, v11, rfl, hq9, ho10, ⟨⟨hN9, hN10⟩, hm9, hm10⟩, hb⟩
        have HB_10 := hid (bstep (by go_grown) hb : Below w9.heap.size w9 w10)
        have B_10 := hid (bstep B_9.out HB_10.out)
        have S_10 := HB_10.out.size
        clear hb
        have O_L9 := hid hq9
        clear hq9
        have O_l10 := hid ho10
        clear ho10
        obtain ⟨R9, B9, hR⟩ : ∃ R9 B9, turnR N9 L9 l10 v11 = (R9, B9) := ⟨_, _, rfl⟩
        have HR3 := hid hR
        clear hR
        have hlr9 : R9.length ≤ 1000 := turnR_len HR3.out
        go_wp2_with fail
        refine (i_TurnFlows N9 v11 _ _ _ _ _ _ L9 l10 _ ((OwnS.at qf_len O_L9.out).below (by go_grown)) (O_l10.out.at.below (by go_grown)) (by omega) (by omega) R9 B9 HR3.out).mono ?_
        rintro e w11 ⟨p12, k12, rfl, ho, hb⟩
        have HB_11 := hid (bstep (by go_grown) hb : Below w10.heap.size w10 w11)
        have B_11 := hid (bstep B_10.out HB_11.out)
        have S_11 := HB_11.out.size
        have T_11_1 : Hid (w11.heap[w10.heap.size]? = some (.cells #[.int .i64 N9, .slice a9 m9 c9] 69 (0, 0))) := hid (by rw [hb.block _ (by simp <;> omega)]; exact heap_alloc_new _ _)
        have m_11_1_0 : w11.cell? ⟨w10.heap.size, 0, none⟩ = some (.int .i64 N9) := by rw [cell_of_row w11 _ _ _ _ (0, 0) T_11_1.out]; rfl
        have m_11_1_1 : w11.cell? ⟨w10.heap.size, 1, none⟩ = some (.slice a9 m9 c9) := by rw [cell_of_row w11 _ _ _ _ (0, 0) T_11_1.out]; rfl
        have z_11_1 : w10.heap.size < w11.heap.size := (Array.getElem?_eq_some_iff.1 T_11_1.out).1
        clear hb
        have O_R12 := hid ho
        clear ho
        have O_L9_11 := hid (O_L9.out.below HB_11.out)
        have O_l10_11 := hid (O_l10.out.below HB_11.out)
        go_wp2_with fail
        refine (s_TurnFlows N9 v11 _ _ _ _ _ _ L9 l10 _ ((OwnS.at qf_len O_L9_11.out).below (by go_grown)) (O_l10_11.out.at.below (by go_grown)) (by omega) (by omega) (own_capQ O_L9_11.out) R9 B9 HR3.out).mono ?_
        rintro e w12 ⟨p13, k13, rfl, ho, hb⟩
        have HB_12 := hid (bstep (by go_grown) hb : Below w11.heap.size w11 w12)
        have B_12 := hid (bstep B_11.out HB_12.out)
        have S_12 := HB_12.out.size
        have T_12_1 := hid ((HB_12.out.block w10.heap.size (Array.getElem?_eq_some_iff.1 T_11_1.out).1).trans T_11_1.out)
        clear m_11_1_0 m_11_1_1 z_11_1
        have m_12_1_0 : w12.cell? ⟨w10.heap.size, 0, none⟩ = some (.int .i64 N9) := by rw [cell_of_row w12 _ _ _ _ (0, 0) T_12_1.out]; rfl
        have m_12_1_1 : w12.cell? ⟨w10.heap.size, 1, none⟩ = some (.slice a9 m9 c9) := by rw [cell_of_row w12 _ _ _ _ (0, 0) T_12_1.out]; rfl
        have z_12_1 : w10.heap.size < w12.heap.size := (Array.getElem?_eq_some_iff.1 T_12_1.out).1
        clear hb
        have O_R13 := hid ho
        clear ho
        have O_R12_12 := hid (O_R12.out.below HB_12.out)
        have O_L9_12 := hid (O_L9_11.out.below HB_12.out)
        have O_l10_12 := hid (O_l10_11.out.below HB_12.out)
        go_upto_region 33 with fail
        go_cut [194] (fun s194 wx => s194 = .bool false ∧ Hid (Below w12.heap.size w12 wx))
        case first => as_aux_lemma =>
          go_wp2_with fail
          refine (l_vInts_same _ _ _ _ _ R9 _ (O_R12_12.out.at.below (by go_grown)) (O_R13.out.at.below (by go_grown)) (by omega)).mono ?_
          rintro e w13 ⟨rfl, hb⟩
          have HB_13 := hid (bstep (by go_grown) hb : Below w12.heap.size w12 w13)
          have B_13 := hid (bstep B_12.out HB_13.out)
          have S_13 := HB_13.out.size
          have T_13_1 := hid ((HB_13.out.block w10.heap.size (Array.getElem?_eq_some_iff.1 T_12_1.out).1).trans T_12_1.out)
          clear m_12_1_0 m_12_1_1 z_12_1
          have m_13_1_0 : w13.cell? ⟨w10.heap.size, 0, none⟩ = some (.int .i64 N9) := by rw [cell_of_row w13 _ _ _ _ (0, 0) T_13_1.out]; rfl
          have m_13_1_1 : w13.cell? ⟨w10.heap.size, 1, none⟩ = some (.slice a9 m9 c9) := by rw [cell_of_row w13 _ _ _ _ (0, 0) T_13_1.out]; rfl
          have z_13_1 : w10.heap.size < w13.heap.size := (Array.getElem?_eq_some_iff.1 T_13_1.out).1
          clear hb
          go_wp2_with fail
          go_meet
          exact ⟨rfl, hid HB_13.out⟩
        case rest => as_aux_lemma =>
          obtain ⟨rfl, hcu⟩ := hcut
          obtain ⟨w13, hW13⟩ : ∃ W, W = wc := ⟨_, rfl⟩
          subst hW13
          have HB_13 := hcu
          have B_13 := hid (bstep B_12.out HB_13.out)
          have S_13 := HB_13.out.size
          have T_13_1 := hid ((HB_13.out.block w10.heap.size (Array.getElem?_eq_some_iff.1 T_12_1.out).1).trans T_12_1.out)
          clear m_12_1_0 m_12_1_1 z_12_1
          have m_13_1_0 : w13.cell? ⟨w10.heap.size, 0, none⟩ = some (.int .i64 N9) := by rw [cell_of_row w13 _ _ _ _ (0, 0) T_13_1.out]; rfl
          have m_13_1_1 : w13.cell? ⟨w10.heap.size, 1, none⟩ = some (.slice a9 m9 c9) := by rw [cell_of_row w13 _ _ _ _ (0, 0) T_13_1.out]; rfl
          have z_13_1 : w10.heap.size < w13.heap.size := (Array.getElem?_eq_some_iff.1 T_13_1.out).1
          clear hcu
          have O_R12_13 := hid (O_R12_12.out.below HB_13.out)
          have O_L9_13 := hid (O_L9_12.out.below HB_13.out)
          have O_l10_13 := hid (O_l10_12.out.below HB_13.out)
          go_upto_if 195 with (fail)
          go_cut [] (fun wx => Hid (Below w13.heap.size w13 wx))
          case first => as_aux_lemma =>
            cases B9
            · go_wp2_with fail
              go_meet
              exact hid (Below.refl _ _)
            · obtain ⟨hbk, hv⟩ := turnR_back HR3.out
              have HBK := hid hbk
              clear hbk
              have hwv : IntKind.i64.wrap (-v11) = -v11 := IntWalk.i64_in _ (by omega)
              have hll : l10.length = m10 := O_l10_13.out.len
              have HLL := hid hll
              clear hll
              go_wp2_with fail
              refine (i_TurnFlows N9 (-v11) _ _ _ _ _ _ L9 R9 _ ((OwnS.at qf_len O_L9_13.out).below (by go_grown)) (O_R12_13.out.at.below (by go_grown)) (by omega) (by omega) l10 true HBK.out).mono ?_
              rintro e w14 ⟨p14, k14, rfl, ho, hb⟩
              have HB_14 := hid (bstep (by go_grown) hb : Below w13.heap.size w13 w14)
              have B_14 := hid (bstep B_13.out HB_14.out)
              have S_14 := HB_14.out.size
              have T_14_1 := hid ((HB_14.out.block w10.heap.size (Array.getElem?_eq_some_iff.1 T_13_1.out).1).trans T_13_1.out)
              clear m_13_1_0 m_13_1_1 z_13_1
              have m_14_1_0 : w14.cell? ⟨w10.heap.size, 0, none⟩ = some (.int .i64 N9) := by rw [cell_of_row w14 _ _ _ _ (0, 0) T_14_1.out]; rfl
              have m_14_1_1 : w14.cell? ⟨w10.heap.size, 1, none⟩ = some (.slice a9 m9 c9) := by rw [cell_of_row w14 _ _ _ _ (0, 0) T_14_1.out]; rfl
              have z_14_1 : w10.heap.size < w14.heap.size := (Array.getElem?_eq_some_iff.1 T_14_1.out).1
              clear hb
              have O_B14 := hid ho
              clear ho
              have O_l10_14 := hid (O_l10_13.out.below HB_14.out)
              go_wp2_with fail
              refine (l_vInts_two _ _ _ _ _ _ l10 _ (O_B14.out.at.below (by go_grown)) (O_l10_14.out.at.below (by go_grown)) (by have := HLL.out; omega)).mono ?_
              rintro e w15 ⟨rfl, hb⟩
              have HB_15 := hid (bstep (by go_grown) hb : Below w14.heap.size w14 w15)
              have B_15 := hid (bstep B_14.out HB_15.out)
              have S_15 := HB_15.out.size
              have T_15_1 := hid ((HB_15.out.block w10.heap.size (Array.getElem?_eq_some_iff.1 T_14_1.out).1).trans T_14_1.out)
              clear m_14_1_0 m_14_1_1 z_14_1
              have m_15_1_0 : w15.cell? ⟨w10.heap.size, 0, none⟩ = some (.int .i64 N9) := by rw [cell_of_row w15 _ _ _ _ (0, 0) T_15_1.out]; rfl
              have m_15_1_1 : w15.cell? ⟨w10.heap.size, 1, none⟩ = some (.slice a9 m9 c9) := by rw [cell_of_row w15 _ _ _ _ (0, 0) T_15_1.out]; rfl
              have z_15_1 : w10.heap.size < w15.heap.size := (Array.getElem?_eq_some_iff.1 T_15_1.out).1
              clear hb
              go_wp2_with fail
              go_meet
              exact hid (bstep HB_14.out HB_15.out)
          case rest => as_aux_lemma =>
            obtain ⟨w14, hW14⟩ : ∃ W, W = wc := ⟨_, rfl⟩
            subst hW14
            have HB_14 := hcut
            have B_14 := hid (bstep B_13.out HB_14.out)
            have S_14 := HB_14.out.size
            have T_14_1 := hid ((HB_14.out.block w10.heap.size (Array.getElem?_eq_some_iff.1 T_13_1.out).1).trans T_13_1.out)
            clear m_13_1_0 m_13_1_1 z_13_1
            have m_14_1_0 : w14.cell? ⟨w10.heap.size, 0, none⟩ = some (.int .i64 N9) := by rw [cell_of_row w14 _ _ _ _ (0, 0) T_14_1.out]; rfl
            have m_14_1_1 : w14.cell? ⟨w10.heap.size, 1, none⟩ = some (.slice a9 m9 c9) := by rw [cell_of_row w14 _ _ _ _ (0, 0) T_14_1.out]; rfl
            have z_14_1 : w10.heap.size < w14.heap.size := (Array.getElem?_eq_some_iff.1 T_14_1.out).1
            go_wp2_with fail
            refine (s_DrawLoopLoss _ _ _ _ ((H_code.out.below B_14.out).below (by go_grown))).mono ?_
            rintro e w15 ⟨N15, a15, m15, c15, L15, a16, m16, c16, l16, rfl, hq15, ho16, ⟨⟨hN15, hN16⟩, hm15, hm16⟩, hb⟩
            have HB_15 := hid (bstep (by go_grown) hb : Below w14.heap.size w14 w15)
            have B_15 := hid (bstep B_14.out HB_15.out)
            have S_15 := HB_15.out.size
            have T_15_1 := hid ((HB_15.out.block w10.heap.size (Array.getElem?_eq_some_iff.1 T_14_1.out).1).trans T_14_1.out)
            clear m_14_1_0 m_14_1_1 z_14_1
            clear hb
            have O_L15 := hid hq15
            clear hq15
            have O_l16 := hid ho16
            clear ho16
            obtain ⟨x17, b17, hR⟩ : ∃ x17 b17, llossR N15 L15 l16 = (x17, b17) := ⟨_, _, rfl⟩
            have HR4 := hid hR
            clear hR
            go_wp2_with fail
            refine (i_LoopLoss N15 _ _ _ _ _ _ L15 l16 _ ((OwnS.at qf_len O_L15.out).below (by go_grown)) (O_l16.out.at.below (by go_grown)) (by omega) (by omega) x17 b17 HR4.out).mono ?_
            rintro e w16 ⟨rfl, hb⟩
            have HB_16 := hid (bstep (by go_grown) hb : Below w15.heap.size w15 w16)
            have B_16 := hid (bstep B_15.out HB_16.out)
            have S_16 := HB_16.out.size
            have T_16_1 := hid ((HB_16.out.block w10.heap.size (Array.getElem?_eq_some_iff.1 T_15_1.out).1).trans T_15_1.out)
            have T_16_2 : Hid (w16.heap[w15.heap.size]? = some (.cells #[.int .i64 N15, .slice a15 m15 c15] 69 (0, 0))) := hid (by rw [hb.block _ (by simp <;> omega)]; exact heap_alloc_new _ _)
            have m_16_2_0 : w16.cell? ⟨w15.heap.size, 0, none⟩ = some (.int .i64 N15) := by rw [cell_of_row w16 _ _ _ _ (0, 0) T_16_2.out]; rfl
            have m_16_2_1 : w16.cell? ⟨w15.heap.size, 1, none⟩ = some (.slice a15 m15 c15) := by rw [cell_of_row w16 _ _ _ _ (0, 0) T_16_2.out]; rfl
            have z_16_2 : w15.heap.size < w16.heap.size := (Array.getElem?_eq_some_iff.1 T_16_2.out).1
            clear hb
            have O_L15_16 := hid (O_L15.out.below HB_16.out)
            have O_l16_16 := hid (O_l16.out.below HB_16.out)
            go_wp2_with fail
            refine (s_LoopLoss N15 _ _ _ _ _ _ L15 l16 _ ((OwnS.at qf_len O_L15_16.out).below (by go_grown)) (O_l16_16.out.at.below (by go_grown)) (by omega) (by omega) (own_capQ O_L15_16.out) x17 b17 HR4.out).mono ?_
            rintro e w17 ⟨rfl, hb⟩
            have HB_17 := hid (bstep (by go_grown) hb : Below w16.heap.size w16 w17)
            have B_17 := hid (bstep B_16.out HB_17.out)
            have S_17 := HB_17.out.size
            have T_17_1 := hid ((HB_17.out.block w10.heap.size (Array.getElem?_eq_some_iff.1 T_16_1.out).1).trans T_16_1.out)
            have T_17_2 := hid ((HB_17.out.block w15.heap.size (Array.getElem?_eq_some_iff.1 T_16_2.out).1).trans T_16_2.out)
            clear m_16_2_0 m_16_2_1 z_16_2
            have m_17_2_0 : w17.cell? ⟨w15.heap.size, 0, none⟩ = some (.int .i64 N15) := by rw [cell_of_row w17 _ _ _ _ (0, 0) T_17_2.out]; rfl
            have m_17_2_1 : w17.cell? ⟨w15.heap.size, 1, none⟩ = some (.slice a15 m15 c15) := by rw [cell_of_row w17 _ _ _ _ (0, 0) T_17_2.out]; rfl
            have z_17_2 : w15.heap.size < w17.heap.size := (Array.getElem?_eq_some_iff.1 T_17_2.out).1
            clear hb
            go_wp2
            go_ret
            exact ⟨rfl, B_17.out⟩

set_option maxRecDepth 100000 in
theorem fnSplits_lifted (os : Os) (started : os.Started) (H : Type) (enc : TypeId × Value → H) :
    ReturnsInHanded {} Try.checked os 12 .any (Rows.fnSplitsSpec.pre6 enc Try.prog Try.f12 Rows.fnSplitsRow.domain false) (Rows.fnSplitsSpec.post enc Try.prog Try.f12 false true false false) := by
  refine returnsInHanded_of_change (C := Try.checked) Try.own started (by kernel_rfl) Try.func12
    (ChangeSpec.witness6 (enc := enc) (C := Try.checked) false ⟨#[], #[.slice none 0 0], []⟩ 8 (by kernel_rfl) (by kernel_rfl) (by kernel_rfl) (by kernel_rfl)) ?_
  intro W base args ds gs before hval0 hW _ _
  have hval : ∀ (j : Nat) t v, Try.f12.params[j]? = some t → args[j]? = some v → Value.okWide Try.prog W .any base t v := hval0
  have hW' : DataW.Whole enc Try.prog Try.f12.params.toList Rows.fnSplitsSpec.vars false W args.toList ds gs before := hW
  obtain ⟨p, q, hA0, hV, rfl, hfz, hnd⟩ := hW
  have hlt : ∀ x ∈ p, x.block < W.heap.size := fun x hx => hW'.lt x (by simp [hx])
  have hA : DataW.TrodAll enc Try.prog W 0 (fun _ => true) true Try.f12.params.toList args.toList ds p := hA0
  rw [Try.params12] at hA hval
  clear hA0 hval0
  obtain ⟨v0, d0, rfl, rfl, h0⟩ := trodAll_one hA
  obtain ⟨rfl, rfl⟩ := trodVars_none hV
  obtain ⟨x0, n0, k0, rfl, g0⟩ := open_bytes (hval 0 39 v0 rfl rfl) h0
  refine (law_FnSplits x0 n0 k0 W g0).mono fun e W' ⟨he, hb⟩ => ?_
  subst he
  exact ⟨_, rfl, law_post rfl rfl (by kernel_rfl) hW' rfl rfl rfl hb⟩

theorem fnSplits_proved : Rows.FnSplitsSaid :=
  OpenClaim.holds_of_wide 12 Try.f12 rfl rfl rfl rfl rfl rfl rfl ⟨rfl, rfl, rfl, rfl, rfl⟩ rfl rfl rfl rfl rfl (by kernel_rfl) Try.func12 (by kernel_rfl)
    (of_decide_eq_true (by kernel_rfl)) (by unfold Func.isWrapper; first | (rw [if_pos (by decide +kernel)]; kernel_rfl) | (rw [if_neg (by decide +kernel)]; exact ⟨rfl, rfl⟩))
    (fun os started H enc _ => fnSplits_lifted os started H enc)

end Go.Proofs.Ytpmffboojkfpdaa

